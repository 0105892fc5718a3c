/- save: what number[uint32] says. save: what number[uint8] says. -/
import Derived.Test.YtkeikkkcmackeaaSaveM
namespace Go.Proofs.Ytkeikkkcmackeaa
open Go Go.RowKit Go.Shelf
attribute [local go_sem] Oper.semAt_some
set_option linter.unusedVariables false
set_option linter.unusedSimpArgs false
set_option maxRecDepth 100000
set_option maxHeartbeats 4000000 in
theorem number32_any (w : World) (g off c : Nat) (l : List Int) (hb : Byts l) (hl : l.length = 4) (hc : ∀ j u, l[j]? = some u → w.cell? ⟨g, off + j, none⟩ = some (.int .u8 u)) :
    Calls Try.prog 61 #[.slice (some ⟨g, off, none⟩) 4 c] w (fun e w' => e = .returned (.int .u32 (num l)) ∧ Below w.heap.size w w') := by
  have hg : g < w.heap.size := World.block_lt_of_cell? _ _ (hc 0 (l[0]'(by omega)) (by simp [hl]))
  have HC := Lib.hid hc
  have HL := Lib.hid hl
  have HB := Lib.hid hb
  clear hc hl hb
  refine callsIn_wide.1 (?_ : CallsIn Fence.wide 0 _ _ _ _ _)
  refine callsIn_of_wp_marks Try.func61 rfl trivial ?_ rfl
  simp only [Try.ntmps61, List.size_toArray, List.length_cons, List.length_nil, Nat.reduceAdd, Nat.reduceSub, Array.replicate_succ, Array.replicate_zero, List.push_toArray, List.append_toArray, List.nil_append, List.cons_append]
  gi_wp2
  refine ⟨trivial, rfl, ?_⟩
  refine (callsIn_wide.2 (backward_any _ _ _ _)).mono ?_
  rintro e w2 ⟨rfl, rfl⟩
  gi_wp2
  obtain ⟨W1, hW1⟩ : ∃ W1, W1 = (w.alloc (.cells #[.int .u64 0] 125)).alloc (.cells #[.slice (some ⟨g, off, none⟩) 4 c] 40) := ⟨_, rfl⟩
  have hs1 : W1.heap.size = w.heap.size + 2 := by rw [hW1]; simp
  have bW1 : Below w.heap.size w W1 := by rw [hW1]; exact belowA (belowA (Below.refl _ _) _) _
  have cy : W1.cell? ⟨w.heap.size, 0, none⟩ = some (.int .u64 0) := by rw [hW1]; simp [go_sem]
  have fy : W1.frozen? ⟨w.heap.size, 0, none⟩ = false := by rw [hW1]; simp [go_sem]
  have cx : W1.cell? ⟨w.heap.size + 1, 0, none⟩ = some (.slice (some ⟨g, off, none⟩) 4 c) := by rw [hW1]; simp [go_sem]
  rw [← hW1]
  clear hW1
  generalize hA : Act.mk _ _ = A
  refine wp_rangeB (gf := 91) (lb := #[.pointer (some ⟨w.heap.size + 1, 0, none⟩)]) (by rw [← hA]; rfl) (enters_of Try.func91 (by kernel_rfl) rfl)
    (n0 := w.heap.size) (B0 := w.heap.size + 1) (by omega)
    (backward_in W1 (w.heap.size + 1) g off c 4 l cx HL.out (by omega) (fun j u hj => keepC bW1 (HC.out j u hj)) w.heap.size (w.heap.size + 1) hg (Nat.le_refl _)) (Below.refl _ _) (by omega) (fun _ => rfl)
    (fun pre w' => w'.cell? ⟨w.heap.size, 0, none⟩ = some (.int .u64 (num (l.drop (4 - pre.length)))) ∧ w'.frozen? ⟨w.heap.size, 0, none⟩ = false ∧ Below w.heap.size w w' ∧ w.heap.size + 2 ≤ w'.heap.size)
    (fun c pre w' => False)
    ?hI ?hIx ?h0
    (fun i act w' => act = { tmps := (((A.tmps.setIfInBounds 8 (.int .i64 i)).setIfInBounds 9 (.int .u8 (l.getD i 0))).setIfInBounds 5 (.int .u8 (l.getD i 0))), defers := [] })
    ?hP ?assign ?body ?done ?stop
  case hI =>
    rintro pre C D ⟨p1, p2, p3, p4⟩ hb
    exact ⟨by rw [← p1]; exact hb.cell (p := ⟨w.heap.size, 0, none⟩) (by show w.heap.size < W1.heap.size; omega), (hb.frozen (p := ⟨w.heap.size, 0, none⟩) (by show w.heap.size < W1.heap.size; omega)).trans p2, p3.trans (hb.mono (by omega)), by have := hb.size; omega⟩
  case hIx => rintro c pre C D h hb; exact h
  case h0 => exact ⟨by rw [cy]; simp [show l.drop 4 = [] from List.drop_of_length_le (by rw [HL.out]; exact Nat.le_refl _), num], fy, bW1, by omega⟩
  case hP => rintro a act C D rfl k; rfl
  case assign =>
    intro a W6 K hsz hK
    subst hA
    have HK := Lib.hid hK
    clear hK
    gi_wp2
    refine HK.out _ _ ?_ (Below.refl _ _)
    rfl
  case body =>
    rintro pre i act W2 rfl ⟨p1, p2, p3, p4⟩ hok hsz
    subst hA
    have hpl : 4 - pre.length = i + 1 := by omega
    rw [hpl] at p1
    have hi : i < 4 := by omega
    have E := Lib.hid (num_drop l i (by rw [HL.out]; exact hi))
    have hr := num_rng (l.drop (i + 1)) (fun b hb => HB.out b (List.mem_of_mem_drop hb))
    rw [List.length_drop, HL.out] at hr
    have hp7 : (256 : Int) ^ (4 - (i + 1)) ≤ 256 ^ 7 := by
      rcases (show i = 0 ∨ i = 1 ∨ i = 2 ∨ i = 3 by omega) with rfl | rfl | rfl | rfl <;> decide
    have hr2 : num (l.drop (i + 1)) < 72057594037927936 := Int.lt_of_lt_of_le hr.2 (Int.le_trans hp7 (by decide))
    have hr1 := hr.1
    have hu := HB.out (l.getD i 0) (by rw [List.getD, List.getElem?_eq_getElem (by rw [HL.out]; exact hi)]; simp)
    obtain ⟨u, hu'⟩ : ∃ u, l.getD i 0 = u := ⟨_, rfl⟩
    rw [hu'] at hu E
    rw [hu']
    obtain ⟨u0, u1⟩ := hu
    obtain ⟨x, hx⟩ : ∃ x, num (l.drop (i + 1)) = x := ⟨_, rfl⟩
    rw [hx] at p1 hr1 hr2 E
    have O8 := or8 x u hr1 hr2 u0 u1
    have hxm : x * 256 < 18446744073709551616 := by omega
    have HX := Lib.hid hx
    have HU := Lib.hid hu'
    have P3 := Lib.hid p3
    have PL := Lib.hid hpl
    have OK := Lib.hid hok
    clear hr hp7 hx hu' p3 hpl hok
    simp only [List.setIfInBounds_toArray, List.set_cons_succ, List.set_cons_zero]
    gi_wp2
    have kb := (KB.refl w.heap.size (w.heap.size + 1) W2).setCell (p := ⟨w.heap.size, 0, none⟩) (Nat.le_refl _) (by show w.heap.size < w.heap.size + 1; omega) (.int .u64 (u + 256 * x))
    refine ⟨kb, ?_, ?_, P3.out.trans kb.bel, by simpa [World.setCell] using p4⟩
    · rw [World.cell?_setCell_same' _ _ _ (by rw [p1]; rfl), List.length_append, show 4 - (pre.length + [i].length) = i by have := OK.out; simp; omega, E.out]
    · rw [World.frozen?_setCell]; exact p2
  case done =>
    rintro xs W2 hxs ⟨p1, p2, p3, p4⟩ hd
    subst hA
    have hxs' : xs.length = 4 := hxs
    rw [hxs', Nat.sub_self, List.drop_zero] at p1
    have hr := num_rng l HB.out
    rw [HL.out] at hr
    obtain ⟨x, hx⟩ : ∃ x, num l = x := ⟨_, rfl⟩
    have HNL := Lib.hid hx
    rw [hx] at p1 hr
    have hr1 := hr.1
    have hr2 : x < 4294967296 := hr.2
    have P3 := Lib.hid p3
    clear hr hx p3
    gi_wp2
    refine ⟨by simp, .inl ⟨_, _, rfl, run_takeDeferred hd, ?_⟩⟩
    refine ⟨_, results_tmp rfl _ _ _, ?_, ?_⟩
    · rw [HNL.out]; rfl
    · exact P3.out.trans (below_putObj _ _ _ (by omega) (by omega))
  case stop =>
    rintro c pre W2 _ h
    exact h.elim
end Go.Proofs.Ytkeikkkcmackeaa

namespace Go.Proofs.Ytkeikkkcmackeaa
open Go Go.RowKit Go.Shelf
attribute [local go_sem] Oper.semAt_some
set_option linter.unusedVariables false
set_option linter.unusedSimpArgs false
set_option maxRecDepth 100000
set_option maxHeartbeats 4000000 in
theorem number8_any (w : World) (g off c : Nat) (l : List Int) (hb : Byts l) (hl : l.length = 1) (hc : ∀ j u, l[j]? = some u → w.cell? ⟨g, off + j, none⟩ = some (.int .u8 u)) :
    Calls Try.prog 94 #[.slice (some ⟨g, off, none⟩) 1 c] w (fun e w' => e = .returned (.int .u8 (num l)) ∧ Below w.heap.size w w') := by
  have hg : g < w.heap.size := World.block_lt_of_cell? _ _ (hc 0 (l[0]'(by omega)) (by simp [hl]))
  have HC := Lib.hid hc
  have HL := Lib.hid hl
  have HB := Lib.hid hb
  clear hc hl hb
  refine callsIn_wide.1 (?_ : CallsIn Fence.wide 0 _ _ _ _ _)
  refine callsIn_of_wp_marks Try.func94 rfl trivial ?_ rfl
  simp only [Try.ntmps94, List.size_toArray, List.length_cons, List.length_nil, Nat.reduceAdd, Nat.reduceSub, Array.replicate_succ, Array.replicate_zero, List.push_toArray, List.append_toArray, List.nil_append, List.cons_append]
  gi_wp2
  refine ⟨trivial, rfl, ?_⟩
  refine (callsIn_wide.2 (backward_any _ _ _ _)).mono ?_
  rintro e w2 ⟨rfl, rfl⟩
  gi_wp2
  obtain ⟨W1, hW1⟩ : ∃ W1, W1 = (w.alloc (.cells #[.int .u64 0] 125)).alloc (.cells #[.slice (some ⟨g, off, none⟩) 1 c] 40) := ⟨_, rfl⟩
  have hs1 : W1.heap.size = w.heap.size + 2 := by rw [hW1]; simp
  have bW1 : Below w.heap.size w W1 := by rw [hW1]; exact belowA (belowA (Below.refl _ _) _) _
  have cy : W1.cell? ⟨w.heap.size, 0, none⟩ = some (.int .u64 0) := by rw [hW1]; simp [go_sem]
  have fy : W1.frozen? ⟨w.heap.size, 0, none⟩ = false := by rw [hW1]; simp [go_sem]
  have cx : W1.cell? ⟨w.heap.size + 1, 0, none⟩ = some (.slice (some ⟨g, off, none⟩) 1 c) := by rw [hW1]; simp [go_sem]
  rw [← hW1]
  clear hW1
  generalize hA : Act.mk _ _ = A
  refine wp_rangeB (gf := 91) (lb := #[.pointer (some ⟨w.heap.size + 1, 0, none⟩)]) (by rw [← hA]; rfl) (enters_of Try.func91 (by kernel_rfl) rfl)
    (n0 := w.heap.size) (B0 := w.heap.size + 1) (by omega)
    (backward_in W1 (w.heap.size + 1) g off c 1 l cx HL.out (by omega) (fun j u hj => keepC bW1 (HC.out j u hj)) w.heap.size (w.heap.size + 1) hg (Nat.le_refl _)) (Below.refl _ _) (by omega) (fun _ => rfl)
    (fun pre w' => w'.cell? ⟨w.heap.size, 0, none⟩ = some (.int .u64 (num (l.drop (1 - pre.length)))) ∧ w'.frozen? ⟨w.heap.size, 0, none⟩ = false ∧ Below w.heap.size w w' ∧ w.heap.size + 2 ≤ w'.heap.size)
    (fun c pre w' => False)
    ?hI ?hIx ?h0
    (fun i act w' => act = { tmps := (((A.tmps.setIfInBounds 8 (.int .i64 i)).setIfInBounds 9 (.int .u8 (l.getD i 0))).setIfInBounds 5 (.int .u8 (l.getD i 0))), defers := [] })
    ?hP ?assign ?body ?done ?stop
  case hI =>
    rintro pre C D ⟨p1, p2, p3, p4⟩ hb
    exact ⟨by rw [← p1]; exact hb.cell (p := ⟨w.heap.size, 0, none⟩) (by show w.heap.size < W1.heap.size; omega), (hb.frozen (p := ⟨w.heap.size, 0, none⟩) (by show w.heap.size < W1.heap.size; omega)).trans p2, p3.trans (hb.mono (by omega)), by have := hb.size; omega⟩
  case hIx => rintro c pre C D h hb; exact h
  case h0 => exact ⟨by rw [cy]; simp [show l.drop 1 = [] from List.drop_of_length_le (by rw [HL.out]; exact Nat.le_refl _), num], fy, bW1, by omega⟩
  case hP => rintro a act C D rfl k; rfl
  case assign =>
    intro a W6 K hsz hK
    subst hA
    have HK := Lib.hid hK
    clear hK
    gi_wp2
    refine HK.out _ _ ?_ (Below.refl _ _)
    rfl
  case body =>
    rintro pre i act W2 rfl ⟨p1, p2, p3, p4⟩ hok hsz
    subst hA
    have hpl : 1 - pre.length = i + 1 := by omega
    rw [hpl] at p1
    have hi : i < 1 := by omega
    have E := Lib.hid (num_drop l i (by rw [HL.out]; exact hi))
    have hr := num_rng (l.drop (i + 1)) (fun b hb => HB.out b (List.mem_of_mem_drop hb))
    rw [List.length_drop, HL.out] at hr
    have hp7 : (256 : Int) ^ (1 - (i + 1)) ≤ 256 ^ 7 := by
      rcases (show i = 0 by omega) with rfl <;> decide
    have hr2 : num (l.drop (i + 1)) < 72057594037927936 := Int.lt_of_lt_of_le hr.2 (Int.le_trans hp7 (by decide))
    have hr1 := hr.1
    have hu := HB.out (l.getD i 0) (by rw [List.getD, List.getElem?_eq_getElem (by rw [HL.out]; exact hi)]; simp)
    obtain ⟨u, hu'⟩ : ∃ u, l.getD i 0 = u := ⟨_, rfl⟩
    rw [hu'] at hu E
    rw [hu']
    obtain ⟨u0, u1⟩ := hu
    obtain ⟨x, hx⟩ : ∃ x, num (l.drop (i + 1)) = x := ⟨_, rfl⟩
    rw [hx] at p1 hr1 hr2 E
    have O8 := or8 x u hr1 hr2 u0 u1
    have hxm : x * 256 < 18446744073709551616 := by omega
    have HX := Lib.hid hx
    have HU := Lib.hid hu'
    have P3 := Lib.hid p3
    have PL := Lib.hid hpl
    have OK := Lib.hid hok
    clear hr hp7 hx hu' p3 hpl hok
    simp only [List.setIfInBounds_toArray, List.set_cons_succ, List.set_cons_zero]
    gi_wp2
    have kb := (KB.refl w.heap.size (w.heap.size + 1) W2).setCell (p := ⟨w.heap.size, 0, none⟩) (Nat.le_refl _) (by show w.heap.size < w.heap.size + 1; omega) (.int .u64 (u + 256 * x))
    refine ⟨kb, ?_, ?_, P3.out.trans kb.bel, by simpa [World.setCell] using p4⟩
    · rw [World.cell?_setCell_same' _ _ _ (by rw [p1]; rfl), List.length_append, show 1 - (pre.length + [i].length) = i by have := OK.out; simp; omega, E.out]
    · rw [World.frozen?_setCell]; exact p2
  case done =>
    rintro xs W2 hxs ⟨p1, p2, p3, p4⟩ hd
    subst hA
    have hxs' : xs.length = 1 := hxs
    rw [hxs', Nat.sub_self, List.drop_zero] at p1
    have hr := num_rng l HB.out
    rw [HL.out] at hr
    obtain ⟨x, hx⟩ : ∃ x, num l = x := ⟨_, rfl⟩
    have HNL := Lib.hid hx
    rw [hx] at p1 hr
    have hr1 := hr.1
    have hr2 : x < 256 := hr.2
    have P3 := Lib.hid p3
    clear hr hx p3
    gi_wp2
    refine ⟨by simp, .inl ⟨_, _, rfl, run_takeDeferred hd, ?_⟩⟩
    refine ⟨_, results_tmp rfl _ _ _, ?_, ?_⟩
    · rw [HNL.out]; rfl
    · exact P3.out.trans (below_putObj _ _ _ (by omega) (by omega))
  case stop =>
    rintro c pre W2 _ h
    exact h.elim
end Go.Proofs.Ytkeikkkcmackeaa
