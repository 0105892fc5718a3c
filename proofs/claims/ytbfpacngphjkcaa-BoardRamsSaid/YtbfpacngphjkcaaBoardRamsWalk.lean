/- The walk of the law BoardRams. -/
import Derived.Test.YtbfpacngphjkcaaBoardO
namespace Go.Proofs.Ytbfpacngphjkcaa.boardRams
open Go.RowKit Go.ChangeShapes
set_option linter.unusedVariables false
set_option linter.unusedSimpArgs false

set_option maxHeartbeats 1000000 in
theorem law (lay rom ram by_ : Int) (v : Value) (m : Nat) (u : Nat → Int) (w : World) (S : Sees w .u8 v m u) (hm : m ≤ 140737488355328) (l0 : 0 ≤ lay) (l1 : lay ≤ 255) (y0 : 0 ≤ by_) (y1 : by_ ≤ 255) (r0 : -9223372036854775808 ≤ rom) (r1 : rom ≤ 9223372036854775807) :
    Calls Try.prog 3 #[planV lay rom ram by_, v] w fun e w' => e = .returned (.bool true) ∧ Below w.heap.size w w' := by
  obtain ⟨ao, cc, rfl, _⟩ := id S
  have HS := Lib.hid S
  clear S
  go_enter Try.func3, Try.ntmps3
  try simp only [List.append_eq, List.cons_append, List.nil_append]
  go_wp2_with fail
  refine (made_any lay rom ram by_ _ l0 l1 y0 y1 r0 r1).mono ?_
  have hle := romN_le rom
  obtain ⟨n, hn⟩ : ∃ n, romN rom = n := ⟨_, rfl⟩
  rw [hn] at hle ⊢
  have HN := Lib.hid hn
  clear hn
  obtain ⟨W1, hW⟩ : ∃ W1, W1 = w.alloc (.cells #[.int .u8 lay, .int .i64 rom, .int .i64 ram, .int .u8 by_] 23) := ⟨_, rfl⟩
  obtain ⟨B, hB⟩ : ∃ B, B = w.heap.size := ⟨_, rfl⟩
  have c2 : W1.cell? ⟨B, 2, none⟩ = some (.int .i64 ram) := by rw [hW, hB]; simp [go_sem]
  have cb : Below w.heap.size w W1 := by rw [hW]; exact belowA (Below.refl _ _) _
  rw [← hW]
  rintro e w2 (⟨can, gb, gr, gm, ga, gc, cap, g0, f, rfl, bd, a0, hg0, hne, hb⟩ | ⟨can, g0, rfl, hb⟩)
  · unfold canB at can
    obtain ⟨b1, b2, b3, b4, b5, b6⟩ := of_decide_eq_true can
    obtain ⟨r, rfl⟩ := Int.eq_ofNat_of_zero_le b5
    rw [Int.toNat_natCast] at bd
    have d2 := keepC hb c2
    have la := bd.la
    have hlt := bd.ram.lt
    have hBlt : B < W1.heap.size := World.block_lt_of_cell? _ _ c2
    have HB := Lib.hid (belowStep cb hb)
    have BD := Lib.hid bd
    have HE := Lib.hid hB
    rw [← hB]
    clear can bd a0 hb c2 cb hW hB b5
    go_wp2_with fail
    refine (copyBytes_any _ m u _ (HS.out.kept HB.out) hm).mono ?_
    rintro e w3 ⟨g2, rfl, hg2, ha2, hb3⟩
    have d3 := keepC hb3 d2
    have BD3 := Lib.hid (BD.out.kept hb3)
    have HB3 := Lib.hid (belowStep HB.out hb3)
    have NE := Lib.hid (BD.out.lts hg2)
    have HA2 := Lib.hid ha2
    have hz := hb3.size
    clear ha2 hb3 d2 HB BD
    by_cases hne2 : m = r
    · subst hne2
      go_wp2_with fail
      refine (setRam_yes _ u lay W1.heap.size gb gr gm ga gc n cap m f _ _ BD3.out HA2.out.sees (by omega)).mono ?_
      rintro e w4 ⟨rfl, ha4, hu⟩
      have d4 : w4.cell? ⟨B, 2, none⟩ = some (.int .i64 m) := by rw [← d3]; exact hu.cell (p := ⟨B, 2, none⟩) (World.block_lt_of_cell? _ _ d3) (by show B ≠ ga; omega)
      have A4 := Lib.hid (hu.arr HA2.out (show g2 ≠ ga by omega))
      have BD4 := Lib.hid (BD3.out.upd hu ha4)
      have HB4 := Lib.hid (hu.out HB3.out (show w.heap.size ≤ ga by have := HE.out; omega))
      have g2lt : g2 < w4.heap.size := A4.out.lt
      have galt : ga < w4.heap.size := ha4.lt
      clear ha4 hu d3 HA2 BD3 HB3
      go_wp2_with fail
      refine (spoilBytes_any g2 m m u _ A4.out (by omega)).mono ?_
      rintro e w5 ⟨rfl, _, hu⟩
      have d5 : w5.cell? ⟨B, 2, none⟩ = some (.int .i64 m) := by rw [← d4]; exact hu.cell (p := ⟨B, 2, none⟩) (World.block_lt_of_cell? _ _ d4) (by show B ≠ g2; omega)
      have HB5 := Lib.hid (hu.out HB4.out (show w.heap.size ≤ g2 by have := HE.out; omega))
      have BD5 := Lib.hid (BD4.out.other hu NE.out)
      clear hu d4 BD4 HB4
      go_wp2_with fail
      refine (ram_any lay W1.heap.size gb gr gm ga gc n cap m f u _ BD5.out (by omega)).mono ?_
      rintro e w6 ⟨gR, cR, rfl, hR1, hR2, hR3⟩
      have HR := Lib.hid hR2
      have HB6 := Lib.hid (belowStep HB5.out hR3)
      clear hR2 hR3
      go_wp2_with fail
      refine (bytes_any _ _ m m u u _ HR.out.sees (HS.out.kept HB6.out) (by omega) (by omega)).mono ?_
      rw [eqRow_yes (fun _ _ => rfl)]
      rintro e w7 ⟨rfl, hb7⟩
      go_wp2_with fail
      go_ret
      exact ⟨rfl, belowStep HB6.out hb7⟩
    · have q : ((m : Int) != (r : Int)) = true := by simp; omega
      have HNE := Lib.hid hne2
      clear hne2
      go_wp2_with fail
      refine (setRam_no _ m u lay W1.heap.size gb gr gm ga gc n cap r f _ _ BD3.out HA2.out.sees HNE.out).mono ?_
      rintro e w4 ⟨rfl, rfl⟩
      have g2lt : g2 < w3.heap.size := HA2.out.lt
      go_wp2_with fail
      refine (spoilBytes_any g2 m m u _ HA2.out hm).mono ?_
      rintro e w5 ⟨rfl, _, hu⟩
      have d5 : w5.cell? ⟨B, 2, none⟩ = some (.int .i64 r) := by rw [← d3]; exact hu.cell (p := ⟨B, 2, none⟩) (World.block_lt_of_cell? _ _ d3) (by show B ≠ g2; omega)
      have HB5 := Lib.hid (hu.out HB3.out (show w.heap.size ≤ g2 by have := HE.out; omega))
      have BD5 := Lib.hid (BD3.out.other hu NE.out)
      have hmk := makeU8 r (by omega)
      have hr5 : r ≤ 140737488355328 := by omega
      have hr6 : r ≤ 524288 := by omega
      have k5 : Below w5.heap.size w5 w5 := Below.refl _ _
      clear hu d3 BD3 HB3 HA2
      go_wp2_with fail
      go_region_held3 (fun w' => w'.cell? ⟨B, 2, none⟩ = some (.int .i64 r) ∧ Below w5.heap.size w5 w')
        (first
          | exact ⟨d5, belowD k5⟩
          | (go_split_ands; (with_reducible exact ⟨keepC hbR (by assumption), belowStep (by assumption) hbR⟩))
          | (go_split_ands; (with_reducible exact ⟨keepC hbY (by assumption), belowStep (by assumption) hbY⟩))
          | (go_split_ands; (with_reducible exact ⟨keepAlloc (by assumption) _, belowA (by assumption) _⟩))
          | (go_split_ands; exact ⟨keepAlloc d5 _, belowD (belowA k5 _)⟩))
        (first
          | (go_at_call 16; refine (ram_any lay W1.heap.size gb gr gm ga gc n cap r f _ _ (BD5.out.kept ?_) hr6).mono ?_; (go_split_ands; assumption); rintro e w' ⟨gR, cR, rfl, hR1, hR2, hbR⟩; have HR := Lib.hid hR2; clear hR2)
          | (go_at_call 15; refine (bytes_any _ _ r r (fun _ => 0) (fun _ => 0) _ (HR.out.kept ?_).sees ((Arr.zero _ .u8 5 r).kept ?_).sees hr5 hr5).mono ?_; (focus ((repeat (first | exact Below.refl _ _ | apply belowA | apply belowD | refine belowStep ?_ hbR)); done)); (focus ((repeat (first | exact Below.refl _ _ | apply belowA | apply belowD | refine belowStep ?_ hbR)); done)); rw [eqRow_yes (fun _ _ => rfl)]; rintro e w' ⟨rfl, hbY⟩))
      all_goals
        go_split_ands
        go_wp2_with fail
        go_ret
        exact ⟨rfl, belowStep HB5.out (by assumption)⟩
  · rw [← hB]
    have HB := Lib.hid (belowStep cb hb)
    clear can hb c2 cb hW hB
    go_wp2_with fail
    go_ret
    exact ⟨rfl, HB.out⟩

open Go.WideShapes Go.ChangeAt in
set_option maxRecDepth 100000 in
theorem walk (H : Type) (enc : TypeId × Value → H) (W : World) (base : Nat) (v0 v1 : Value) {d0 d1 : DataW H} {p0 p1 : List MemPlace} (k0 : Value.okWide Try.prog W .any base 23 v0) (h0 : DataW.Trod enc Try.prog W 0 (fun _ => true) true 23 v0 d0 p0)
    (k1 : Value.okWide Try.prog W .any base 24 v1) (h1 : DataW.Trod enc Try.prog W 0 (fun _ => true) true 24 v1 d1 p1) (hsz : (DataW.weightsEach Try.prog [23, 24] [d0, d1]).all (· ≤ reachBytes) = true) :
    Calls Try.prog 3 #[v0, v1] W fun e w' => e = .returned (.bool true) ∧ Below W.heap.size W w' := by
  obtain ⟨lay, rom, ram, by_, rfl, l0, l1, y0, y1, r0, r1, _, _⟩ := openPlan k0 h0
  obtain ⟨m, u, S, hm, _⟩ := openBytes k1 h1 (fun elems spare e => sized_slice hsz (j := 1) (t := 24) (e := 5) rfl (by rw [← e]; rfl) Try.underlying24)
  exact law lay rom ram by_ v1 m u W S hm l0 l1 y0 y1 r0 r1
end Go.Proofs.Ytbfpacngphjkcaa.boardRams
