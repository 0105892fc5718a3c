/- Addresses, gone through: the contracts of the two iterators. -/
import Derived.Test.YtbfpacngphjkcaaBoardP
import Derived.Test.YtbfpacngphjkcaaSeq
namespace Go.Proofs.Ytbfpacngphjkcaa
open Go Go.RowKit
attribute [local go_sem] Oper.semAt_some
set_option linter.unusedVariables false
set_option linter.unusedSimpArgs false
set_option maxRecDepth 100000

abbrev spotV (p : Int × Int) : Value := .agg #[.int .u8 p.1, .int .i64 p.2]
/-- The addresses come rising. -/
def Rising (pre : List Nat) (a : Nat) : Prop := a < 16777216 ∧ ∀ p ∈ pre, p < a
theorem spotAt_rng (lay : Int) (n r : Nat) (x : Int) (s1 : 1 ≤ n) (s2 : n ≤ 8388608) : (spotAt lay n r x).1 = 0 ∨ (spotAt lay n r x).1 = 1 ∨ (spotAt lay n r x).1 = 2 := by
  unfold spotAt spot
  split
  · exact Or.inl rfl
  · split
    · split
      · exact Or.inr (Or.inr rfl)
      · split
        · exact Or.inr (Or.inl rfl)
        · exact Or.inl rfl
    · split
      · exact Or.inr (Or.inr rfl)
      · split
        · exact Or.inr (Or.inl rfl)
        · exact Or.inl rfl

theorem Cells.kept {w w' : World} {lay : Int} {gb gr gm ga gc n cap r : Nat} (h : Cells w lay gb gr gm ga gc n cap r) (hb : Below w.heap.size w w') : Cells w' lay gb gr gm ga gc n cap r := h.keep fun b o v _ hc => keepC hb hc
section
variable {lay : Int} {gb gr gm ga gc n cap r : Nat}
set_option maxHeartbeats 4000000 in
/-- 'all': all addresses at which something stands. -/
theorem all_in (w0 : World) (C : Cells w0 lay gb gr gm ga gc n cap r) (hrm : r ≤ 524288) (s1 : 1 ≤ n) (s2 : n ≤ 8388608) (Bx : Nat) (hx : w0.cell? ⟨Bx, 0, none⟩ = some (.pointer (some ⟨gb, 0, none⟩)))
    (n0 B : Nat) (hk : ∀ a b, KB n0 B a b → Cells a lay gb gr gm ga gc n cap r → a.cell? ⟨Bx, 0, none⟩ = some (.pointer (some ⟨gb, 0, none⟩)) → Cells b lay gb gr gm ga gc n cap r ∧ b.cell? ⟨Bx, 0, none⟩ = some (.pointer (some ⟨gb, 0, none⟩))) :
    SeqB Try.prog 32 #[.pointer (some ⟨Bx, 0, none⟩)] (fun a : Nat => #[.int .u32 a, spotV (spotAt lay n r a)]) n0 B
      (fun pre a => Rising pre a ∧ (spotAt lay n r a).1 ≠ 0) (fun xs => ∀ a : Nat, a < 16777216 → (spotAt lay n r a).1 ≠ 0 → a ∈ xs) (fun _ => True) w0 := by
  intro l J Jx W hW hn0 hB hJ hJx hY h0
  have CW := Lib.hid (C.kept hW)
  have XW := Lib.hid (keepC hW hx)
  have HY := Lib.hid hY
  have HJ := Lib.hid hJ
  have HJx := Lib.hid hJx
  have HK := Lib.hid hk
  have H0 := Lib.hid h0
  clear C hx hY hJ hJx hk h0 hW
  refine callsIn_of_wp Try.func32 rfl trivial ?_ rfl
  simp only [Try.ntmps32, List.size_toArray, List.length_cons, List.length_nil, Nat.reduceAdd, Nat.reduceSub, Array.replicate_succ, Array.replicate_zero, List.push_toArray, List.append_toArray, List.nil_append, List.cons_append]
  gi_wp2
  gi_loopw [5] (fun i wr => ∃ (k : Nat) (pre : List Nat), k ≤ 16777216 ∧ i = .int .u32 k ∧ J pre wr ∧ (∀ a : Nat, a < k → (spotAt lay n r a).1 ≠ 0 → a ∈ pre) ∧ (∀ p ∈ pre, p < k) ∧ Cells wr lay gb gr gm ga gc n cap r ∧ wr.cell? ⟨Bx, 0, none⟩ = some (.pointer (some ⟨gb, 0, none⟩)) ∧ W.heap.size ≤ wr.heap.size)
    (fun i _ => 16777216 - (intOf i).toNat)
  case atStart => exact ⟨0, [], by omega, rfl, H0.out, fun a h => absurd h (Nat.not_lt_zero _), fun p h => by simp at h, CW.out, XW.out, Nat.le_refl _⟩
  case round =>
    obtain ⟨k, pre, hk, rfl, hj, hin, hlt, cells, hbx, hsz⟩ := hrel
    have J1 := Lib.hid hj
    have IN := Lib.hid hin
    have LT := Lib.hid hlt
    have CE := Lib.hid cells
    by_cases hkl : k < 16777216
    · have DC := Lib.hid (dec_any k lay gb gr gm ga gc n cap r wr cells (by omega) (by omega) hrm s1 s2)
      have hki : (k : Int) < 16777216 := by omega
      have hq := spotAt_rng lay n r k s1 s2
      have hsp : spotAt lay n r k = spot lay n r ((k : Int) / 65536 % 256) ((k : Int) % 65536) := rfl
      rw [← hsp] at DC
      obtain ⟨⟨q, t⟩, hqt⟩ : ∃ q, spotAt lay n r k = q := ⟨_, rfl⟩
      rw [hqt] at DC hq
      simp only at DC hq
      have HQT := Lib.hid hqt
      clear hj hin hlt cells hsp hqt
      gi_wp2
      refine ⟨trivial, rfl, ?_⟩
      refine (callsIn_wide.2 DC.out).mono ?_
      rintro e w2 ⟨rfl, hb2⟩
      have J2 := Lib.hid (HJ.out _ _ _ J1.out (hb2.mono hsz))
      have CE2 := Lib.hid (CE.out.kept hb2)
      have hbx2 := keepC hb2 hbx
      have sz2 := Nat.le_trans hsz hb2.size
      clear hb2 J1 CE DC hbx
      by_cases hq0 : q = 0
      · subst hq0
        go_simp
        repeat (first | go_values | gi_guarded | gi_step)
        refine ⟨fun _ _ => trivial, ?_⟩
        gi_wp2
        go_roundw
        case rel => exact ⟨k + 1, pre, by omega, by go_num, HJ.out _ _ _ J2.out (belowA (Below.refl _ _) _ |>.mono sz2), fun a ha h => by
            by_cases e : a = k
            · subst e; rw [HQT.out] at h; exact absurd rfl h
            · exact IN.out a (by omega) h, fun p hp => by have := LT.out p hp; omega, CE2.out.kept (belowA (Below.refl _ _) _), keepC (belowA (Below.refl _ _) _) hbx2, by simp; omega⟩
        case measure => simp [intOf]; omega
      · have hqn : (q != 0) = true := by simpa using hq0
        have hsz3 : W.heap.size ≤ (w2.alloc (.cells #[.int .u8 q, .int .i64 t] 40)).heap.size := by simp; omega
        obtain ⟨fn, tmps, assign, body, hy, hR⟩ := HY.out pre k (w2.alloc (.cells #[.int .u8 q, .int .i64 t] 40)) (HJ.out _ _ _ J2.out (belowA (Below.refl _ _) _ |>.mono sz2)) ⟨⟨hkl, LT.out⟩, by rw [HQT.out]; exact hq0⟩ hsz3
        rw [HQT.out] at hy
        have CE3 := Lib.hid (CE2.out.kept (belowA (Below.refl w2.heap.size w2) (.cells #[.int .u8 q, .int .i64 t] 40)))
        have X3 := Lib.hid (keepC (belowA (Below.refl w2.heap.size w2) (.cells #[.int .u8 q, .int .i64 t] 40)) hbx2)
        gi_wp2
        refine ⟨rfl, ?_⟩
        refine hR.mono ?_
        rintro e w4 (⟨rfl, hj4, hk4⟩ | ⟨rfl, hj4, hk4⟩)
        · obtain ⟨ce4, x4⟩ := HK.out _ _ hk4 CE3.out X3.out
          have J4 := Lib.hid hj4
          have sz4 := Nat.le_trans hsz3 hk4.size
          have CE4 := Lib.hid ce4
          clear hj4 hk4 ce4
          gi_wp2
          go_roundw
          case rel => exact ⟨k + 1, pre ++ [k], by omega, by go_num, J4.out, fun a ha h => by
              by_cases e : a = k
              · subst e; simp
              · exact List.mem_append_left _ (IN.out a (by omega) h), fun p hp => by
                rcases List.mem_append.mp hp with h | h
                · have := LT.out p h; omega
                · simp at h; omega, CE4.out, x4, sz4⟩
          case measure => simp [intOf]; omega
        · have J4 := Lib.hid hj4
          clear hj4 hk4
          gi_wp2
          refine bodyPost_ret (results_none rfl _ _ _) rfl ?_
          exact ⟨⟨_, rfl⟩, .inr ⟨pre ++ [k], trivial, J4.out⟩⟩
    · have hke : k = 16777216 := by omega
      subst hke
      clear hj hin hlt cells
      gi_wp2
      go_end0
      exact ⟨⟨_, rfl⟩, .inl ⟨pre, IN.out, J1.out⟩⟩
theorem all_any (w : World) (gb : Nat) : Calls Try.prog 29 #[.pointer (some ⟨gb, 0, none⟩)] w fun e w' =>
    e = .returned (.func (.func 32) #[] #[.pointer (some ⟨w.heap.size, 0, none⟩)]) ∧ w' = w.alloc (.cells #[.pointer (some ⟨gb, 0, none⟩)] 25) := by
  go_enter Try.func29, Try.ntmps29
  go_wp2_with fail
  go_ret
  exact ⟨rfl, rfl⟩
set_option maxHeartbeats 4000000 in
/-- 'Where': the addresses at which just this stands. -/
theorem where_in (w0 : World) (C : Cells w0 lay gb gr gm ga gc n cap r) (hrm : r ≤ 524288) (s1 : 1 ≤ n) (s2 : n ≤ 8388608) (Bb Bs : Nat) (hb : w0.cell? ⟨Bb, 0, none⟩ = some (.pointer (some ⟨gb, 0, none⟩)))
    (q0 t0 : Int) (hs0 : w0.cell? ⟨Bs, 0, none⟩ = some (.int .u8 q0)) (hs1 : w0.cell? ⟨Bs, 1, none⟩ = some (.int .i64 t0)) (B : Nat) :
    SeqB Try.prog 28 #[.pointer (some ⟨Bb, 0, none⟩), .pointer (some ⟨Bs, 0, none⟩)] (fun a : Nat => #[.int .u32 a]) w0.heap.size B
      (fun pre a => Rising pre a ∧ spotAt lay n r a = (q0, t0)) (fun xs => ∀ a : Nat, a < 16777216 → spotAt lay n r a = (q0, t0) → q0 ≠ 0 → a ∈ xs) (fun _ => True) w0 := by
  intro l J Jx W hW hn0 hB hJ hJx hY h0
  have CW := Lib.hid (C.kept hW)
  have b0 := keepC hW hb
  have hbl : Bb < W.heap.size := World.block_lt_of_cell? _ _ b0
  have HY := Lib.hid hY
  have HJ := Lib.hid hJ
  have HJx := Lib.hid hJx
  have H0 := Lib.hid h0
  have HS0 := Lib.hid hs0
  have HS1 := Lib.hid hs1
  have HC := Lib.hid C
  have HW := Lib.hid hW
  clear C hb hY hJ hJx h0 hW hs0 hs1
  refine callsIn_of_wp_marks Try.func28 rfl trivial ?_ rfl
  simp only [Try.ntmps28, List.size_toArray, List.length_cons, List.length_nil, Nat.reduceAdd, Nat.reduceSub, Array.replicate_succ, Array.replicate_zero, List.push_toArray, List.append_toArray, List.nil_append, List.cons_append]
  gi_wp2
  refine ⟨trivial, rfl, ?_⟩
  refine (callsIn_wide.2 (all_any _ gb)).mono ?_
  rintro e w2 ⟨rfl, rfl⟩
  gi_wp2
  obtain ⟨W1, hW1⟩ : ∃ W1, W1 = ((W.alloc (.cells #[.func (.yield l) #[] #[]] 71)).alloc (.cells #[.pointer (some ⟨gb, 0, none⟩)] 25)) := ⟨_, rfl⟩
  rw [← hW1]
  have hs1 : W1.heap.size = W.heap.size + 2 := by rw [hW1]; simp
  have bW1 : Below W.heap.size W W1 := by rw [hW1]; exact belowA (belowA (Below.refl _ _) _) _
  have cy : W1.cell? ⟨W.heap.size, 0, none⟩ = some (.func (.yield l) #[] #[]) := by rw [hW1]; simp [go_sem]
  have cx : W1.cell? ⟨W.heap.size + 1, 0, none⟩ = some (.pointer (some ⟨gb, 0, none⟩)) := by rw [hW1]; simp [go_sem]
  have hw0 : w0.heap.size ≤ W.heap.size := HW.out.size
  clear hW1
  refine wp_rangeB (gf := 32) (lb := #[.pointer (some ⟨W.heap.size + 1, 0, none⟩)]) rfl (enters_of Try.func32 (by kernel_rfl) rfl)
    (n0 := w0.heap.size) (B0 := W.heap.size) (by omega)
    (all_in W1 (CW.out.kept bW1) hrm s1 s2 (W.heap.size + 1) cx w0.heap.size W.heap.size ?keep) (Below.refl _ _) (by omega) (fun _ => rfl)
    (fun pre w' => ∃ po, J po w' ∧ (∀ p ∈ po, p ∈ pre) ∧ (∀ p ∈ pre, spotAt lay n r p = (q0, t0) → p ∈ po) ∧ Below w0.heap.size w0 w' ∧ w'.cell? ⟨W.heap.size, 0, none⟩ = some (.func (.yield l) #[] #[]) ∧ W.heap.size + 2 ≤ w'.heap.size)
    (fun c pre w' => c = .ret ∧ ∃ po, Jx po w')
    ?hI ?hIx ?h0
    (fun a act w' => ∃ bx, W1.heap.size + 2 ≤ bx ∧ w'.cell? ⟨bx, 0, none⟩ = some (.int .u8 (spotAt lay n r a).1) ∧ w'.cell? ⟨bx, 1, none⟩ = some (.int .i64 (spotAt lay n r a).2) ∧
      act = { tmps := #[.func (.yield l) #[] #[], .pointer (some ⟨Bb, 0, none⟩), .pointer (some ⟨Bs, 0, none⟩), .pointer (some ⟨W.heap.size, 0, none⟩), .int .u32 a, .pointer (some ⟨bx, 0, none⟩), .pointer (some ⟨gb, 0, none⟩),
        .func (.func 32) #[] #[.pointer (some ⟨W.heap.size + 1, 0, none⟩)], .int .u32 a, spotV (spotAt lay n r a), undef, undef, undef, undef, undef, undef, undef, undef, undef], defers := [] })
    ?hP ?assign ?body ?done ?stop
  case keep =>
    intro a b k ca cb
    refine ⟨ca.keep fun b' o v hb hc => ?_, ?_⟩
    · have hlt : b' < w0.heap.size := by
        rcases hb with rfl | rfl | ⟨hl, rfl⟩
        · exact World.block_lt_of_cell? _ _ HC.out.b0
        · exact World.block_lt_of_cell? _ _ HC.out.r0
        · exact World.block_lt_of_cell? _ _ (HC.out.c0 hl)
      rw [← hc]; exact k.bel.cell (p := ⟨b', o, none⟩) hlt
    · have := World.block_lt_of_cell? _ _ cb
      rw [← cb]
      exact World.cell?_of_block (k.from_ _ (by show W.heap.size ≤ W.heap.size + 1; omega) this)
  case hI =>
    rintro pre A B' ⟨po, j, p1, p2, p3, p4, p5⟩ hb
    exact ⟨po, HJ.out _ _ _ j (hb.mono (by omega)), p1, p2, p3.trans (hb.mono (by omega)), by rw [← p4]; exact hb.cell (p := ⟨W.heap.size, 0, none⟩) (by show W.heap.size < W1.heap.size; omega), by have := hb.size; omega⟩
  case hIx =>
    rintro c pre A B' ⟨rfl, po, j⟩ hb
    exact ⟨rfl, po, HJx.out _ _ _ j (hb.mono (by omega))⟩
  case h0 => exact ⟨[], HJ.out _ _ _ H0.out bW1, fun p h => h, fun p h => by simp at h, HW.out.trans (bW1.mono hw0), cy, by omega⟩
  case hP =>
    rintro a act A B' ⟨bx, h1, h2, h3, rfl⟩ k
    have l1 := World.block_lt_of_cell? _ _ h2
    exact ⟨bx, h1, by rw [← h2]; exact World.cell?_of_block (k.from_ _ h1 l1), by rw [← h3]; exact World.cell?_of_block (k.from_ _ h1 l1), rfl⟩
  case assign =>
    intro a W2 K hsz hK
    obtain ⟨⟨q, t⟩, hqt⟩ : ∃ q, spotAt lay n r a = q := ⟨_, rfl⟩
    rw [hqt] at hK ⊢
    have HK := Lib.hid hK
    clear hK
    gi_wp2
    refine HK.out _ _ ⟨W2.heap.size, hsz, ?_, ?_, rfl⟩ (belowA (Below.refl _ _) _)
    · simp [go_sem]
    · simp [go_sem]
  case body =>
    rintro pre a act W2 ⟨bx, h1, h2, h3, rfl⟩ ⟨po, j, p1, p2, p3, p4, p5⟩ ⟨hr, hne⟩ hsz
    have l1 := World.block_lt_of_cell? _ _ h2
    have l2 := World.block_lt_of_cell? _ _ p4
    simp only at l1 l2
    have g0 := keepC p3 HS0.out
    have g1 := keepC p3 HS1.out
    obtain ⟨⟨q, t⟩, hqt⟩ : ∃ q, spotAt lay n r a = q := ⟨_, rfl⟩
    rw [hqt] at h2 h3
    simp only at h2 h3
    have l3 : W2.heap.size ≥ W1.heap.size + 2 := hsz
    by_cases he : q = q0 ∧ t = t0
    · obtain ⟨rfl, rfl⟩ := he
      obtain ⟨fn, tmps, assign, body, hy, hR⟩ := HY.out po a W2 j ⟨⟨hr.1, fun p hp => hr.2 p (p1 p hp)⟩, hqt⟩ (by omega)
      have HP := Lib.hid (⟨p1, p2, p3⟩ : (∀ p ∈ po, p ∈ pre) ∧ (∀ p ∈ pre, spotAt lay n r p = (q, t) → p ∈ po) ∧ Below w0.heap.size w0 W2)
      have HR' : Hid (RoundIn (Fence.wide.inRound (W1.heap.size + 1)) 0 Try.prog l fn tmps assign body W2 (fun e W' => (e = .returned (.bool true) ∧ J (po ++ [a]) W' ∧ KB w0.heap.size B W2 W') ∨ (e = .returned (.bool false) ∧ Jx (po ++ [a]) W' ∧ KB w0.heap.size W.heap.size W2 W'))) := hR
      clear hR p1 p2 p3 hne hqt
      gi_wp2
      refine ⟨rfl, ?_⟩
      refine HR'.out.mono ?_
      rintro e w4 (⟨rfl, hj4, hk4⟩ | ⟨rfl, hj4, hk4⟩)
      · have J4 := Lib.hid hj4
        have K4 := Lib.hid hk4
        clear hj4 hk4
        gi_wp2
        obtain ⟨p1, p2, p3⟩ := HP.out
        refine ⟨K4.out.up hB, po ++ [a], J4.out, ?_, ?_, p3.trans K4.out.bel, ?_, ?_⟩
        · intro p hp
          rcases List.mem_append.mp hp with h | h
          · exact List.mem_append_left _ (p1 p h)
          · exact List.mem_append_right _ h
        · intro p hp hs
          rcases List.mem_append.mp hp with h | h
          · exact List.mem_append_left _ (p2 p h hs)
          · exact List.mem_append_right _ h
        · rw [← p4]; exact World.cell?_of_block (K4.out.from_ _ hB l2)
        · have := K4.out.size; omega
      · have J4 := Lib.hid hj4
        have K4 := Lib.hid hk4
        clear hj4 hk4
        gi_wp2
        exact ⟨K4.out.up (by omega), rfl, _, J4.out⟩
    · have HP := Lib.hid (⟨p1, p2, p3⟩ : (∀ p ∈ po, p ∈ pre) ∧ (∀ p ∈ pre, spotAt lay n r p = (q0, t0) → p ∈ po) ∧ Below w0.heap.size w0 W2)
      have HQ := Lib.hid hqt
      have HE := Lib.hid he
      clear p1 p2 p3 hne hqt
      gi_wp2
      all_goals
        refine ⟨fun _ _ => trivial, ?_⟩
        gi_wp2
        obtain ⟨p1, p2, p3⟩ := HP.out
        refine ⟨KB.refl _ _ _, po, j, fun p hp => List.mem_append_left _ (p1 p hp), ?_, p3, p4, p5⟩
        intro p hp hs
        rcases List.mem_append.mp hp with h | h
        · exact p2 p h hs
        · simp at h
          subst h
          have := HQ.out
          rw [hs] at this
          injection this with e1 e2
          exact absurd ⟨e1.symm, e2.symm⟩ HE.out
  case done =>
    rintro xs W2 hS ⟨po, j, p1, p2, p3, p4, p5⟩ hD
    have HS := Lib.hid hS
    have P2 := Lib.hid p2
    clear hS p1 p2 p3
    gi_wp2
    refine ⟨by simp, .inl ⟨_, _, rfl, run_takeDeferred hD, ?_⟩⟩
    refine ⟨_, results_none rfl _ _ _, ⟨_, rfl⟩, .inl ⟨po, fun a h1 h2 h3 => P2.out a (HS.out a h1 (by rw [h2]; exact h3)) h2, HJ.out _ _ _ j (below_putObj _ _ _ (by omega) (by omega))⟩⟩
  case stop =>
    rintro c pre W2 _ ⟨rfl, po, j⟩ hD
    gi_wp2
    have l4 := (Array.getElem?_eq_some_iff.1 hD).1
    refine ⟨by simp, .inl ⟨_, _, rfl, run_takeDeferred hD, ?_⟩⟩
    exact ⟨_, results_none rfl _ _ _, ⟨_, rfl⟩, .inr ⟨po, trivial, HJx.out _ _ _ j (below_putObj _ _ _ (by omega) (by omega))⟩⟩
end
end Go.Proofs.Ytbfpacngphjkcaa
