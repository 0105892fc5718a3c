/- ports: Can; a unit that is none. -/
import Derived.Test.YtniagcbajjmopaaPortsY
import Derived.Test.YtniagcbajjmopaaPortsU
import Derived.Test.YtniagcbajjmopaaPortsM
namespace Go.Proofs.Ytniagcbajjmopaa
open Go.RowKit
set_option linter.unusedVariables false
set_option linter.unusedSimpArgs false
set_option maxRecDepth 100000
section
variable {w : World} {B : Nat} {s : Pt}
set_option maxHeartbeats 16000000 in
theorem can_any (K : Blk w B 44 s.rs) : Calls Try.prog 25 #[.pointer (some ⟨B, 0, none⟩)] w (Says w (.bool (canP s))) := by
  have e0 : w.cell? ⟨B, 0, none⟩ = some (.int .i64 s.now) := K.cell 0
  have e1 : w.cell? ⟨B, 1, none⟩ = some (.int .i64 s.busy) := K.cell 1
  have e8 : w.cell? ⟨B, 8, none⟩ = some (.int .u16 s.dot) := K.cell 8
  have e9 : w.cell? ⟨B, 9, none⟩ = some (.int .u16 s.line) := K.cell 9
  have hc : canP s = decide (0 ≤ s.now ∧ s.now ≤ 281474976710656 ∧ 0 ≤ s.busy ∧ s.busy ≤ s.now + 4224 ∧ s.dot < 512 ∧ s.line < 512) := rfl
  obtain ⟨nw, hnw⟩ : ∃ nw, s.now = nw := ⟨_, rfl⟩
  obtain ⟨bz, hbz⟩ : ∃ bz, s.busy = bz := ⟨_, rfl⟩
  obtain ⟨dt, hdt⟩ : ∃ dt, s.dot = dt := ⟨_, rfl⟩
  obtain ⟨ln, hln⟩ : ∃ ln, s.line = ln := ⟨_, rfl⟩
  rw [hnw, hbz, hdt, hln] at hc
  rw [hnw] at e0
  rw [hbz] at e1
  rw [hdt] at e8
  rw [hln] at e9
  have HC := Lib.hid hc
  clear hnw hbz hdt hln K hc
  by_cases q1 : 0 ≤ nw
  · have d1 : decide (0 ≤ nw) = true := decide_eq_true q1
    by_cases q2 : nw ≤ 281474976710656
    · have d2 : decide (nw ≤ 281474976710656) = true := decide_eq_true q2
      by_cases q3 : 0 ≤ bz
      · have d3 : decide (0 ≤ bz) = true := decide_eq_true q3
        have wr : IntKind.i64.wrap (nw + 4224) = nw + 4224 := by rw [IntKind.wrap_i64]; omega
        by_cases q4 : bz ≤ nw + 4224
        · have d4 : decide (bz ≤ nw + 4224) = true := decide_eq_true q4
          by_cases q5 : dt < 512
          · have d5 : decide (dt < 512) = true := decide_eq_true q5
            by_cases q6 : ln < 512
            · have d6 : decide (ln < 512) = true := decide_eq_true q6
              have E : Hid (canP s = true) := Lib.hid (by rw [HC.out]; exact decide_eq_true ⟨q1, q2, q3, q4, q5, q6⟩)
              rw [E.out]
              clear HC
              go_enter Try.func25, Try.ntmps25
              go_wp2_with fail
              go_quiet (fail)
              go_wp2_with fail
              go_ret
              exact ⟨by first | rfl | simp [d1, d2, d3, d4, d5, d6], belowN (Below.refl _ _) _⟩
            · have d6 : decide (ln < 512) = false := decide_eq_false q6
              have E : Hid (canP s = false) := Lib.hid (by rw [HC.out]; exact decide_eq_false (by omega))
              rw [E.out]
              clear HC
              go_enter Try.func25, Try.ntmps25
              go_wp2_with fail
              go_quiet (fail)
              go_wp2_with fail
              go_ret
              exact ⟨by first | rfl | simp [d1, d2, d3, d4, d5, d6], belowN (Below.refl _ _) _⟩
          · have d5 : decide (dt < 512) = false := decide_eq_false q5
            have E : Hid (canP s = false) := Lib.hid (by rw [HC.out]; exact decide_eq_false (by omega))
            rw [E.out]
            clear HC
            go_enter Try.func25, Try.ntmps25
            go_wp2_with fail
            go_quiet (fail)
            go_wp2_with fail
            go_ret
            exact ⟨by first | rfl | simp [d1, d2, d3, d4, d5], belowN (Below.refl _ _) _⟩
        · have d4 : decide (bz ≤ nw + 4224) = false := decide_eq_false q4
          have E : Hid (canP s = false) := Lib.hid (by rw [HC.out]; exact decide_eq_false (by omega))
          rw [E.out]
          clear HC
          go_enter Try.func25, Try.ntmps25
          go_wp2_with fail
          go_quiet (fail)
          go_wp2_with fail
          go_ret
          exact ⟨by first | rfl | simp [d1, d2, d3, d4], belowN (Below.refl _ _) _⟩
      · have d3 : decide (0 ≤ bz) = false := decide_eq_false q3
        have E : Hid (canP s = false) := Lib.hid (by rw [HC.out]; exact decide_eq_false (by omega))
        rw [E.out]
        clear HC
        go_enter Try.func25, Try.ntmps25
        go_wp2_with fail
        go_quiet (fail)
        go_wp2_with fail
        go_ret
        exact ⟨by first | rfl | simp [d1, d2, d3], belowN (Below.refl _ _) _⟩
    · have d2 : decide (nw ≤ 281474976710656) = false := decide_eq_false q2
      have E : Hid (canP s = false) := Lib.hid (by rw [HC.out]; exact decide_eq_false (by omega))
      rw [E.out]
      clear HC
      go_enter Try.func25, Try.ntmps25
      go_wp2_with fail
      go_quiet (fail)
      go_wp2_with fail
      go_ret
      exact ⟨by first | rfl | simp [d1, d2], belowN (Below.refl _ _) _⟩
  · have d1 : decide (0 ≤ nw) = false := decide_eq_false q1
    have E : Hid (canP s = false) := Lib.hid (by rw [HC.out]; exact decide_eq_false (by omega))
    rw [E.out]
    clear HC
    go_enter Try.func25, Try.ntmps25
    go_wp2_with fail
    go_quiet (fail)
    go_wp2_with fail
    go_ret
    exact ⟨by first | rfl | simp [d1], belowN (Below.refl _ _) _⟩
end
/-! None. -/
theorem nRead (p o : Int) (w : World) : Calls Try.prog 16 #[.pointer none, .int .u16 p, .int .u8 o] w (Says w (.tuple #[.int .u8 0, .bool false])) := by
  go_enter Try.func16, Try.ntmps16
  go_wp2_with fail
  go_ret2
  exact ⟨rfl, Below.refl _ _⟩
theorem nAdvance (t : Int) (w : World) : Calls Try.prog 13 #[.pointer none, .int .i64 t] w (Says w (.int .i64 1)) := by
  go_enter Try.func13, Try.ntmps13
  go_wp2_with fail
  go_step3
  go_wp2_with fail
  try rw [Exit.noGoto_ret]
  go_ret
  exact ⟨rfl, Below.refl _ _⟩
theorem nNow (w : World) : Calls Try.prog 22 #[.pointer none] w (Says w (.int .i64 0)) := by
  go_enter Try.func22, Try.ntmps22
  go_wp2_with fail
  go_ret
  exact ⟨rfl, Below.refl _ _⟩
theorem nNMI (w : World) : Calls Try.prog 14 #[.pointer none] w (Says w (.bool false)) := by
  go_enter Try.func14, Try.ntmps14
  go_wp2_with fail
  go_ret
  exact ⟨rfl, Below.refl _ _⟩
theorem nIRQ (w : World) : Calls Try.prog 15 #[.pointer none] w (Says w (.bool false)) := by
  go_enter Try.func15, Try.ntmps15
  go_wp2_with fail
  go_ret
  exact ⟨rfl, Below.refl _ _⟩
theorem nFast (w : World) : Calls Try.prog 23 #[.pointer none] w (Says w (.bool false)) := by
  go_enter Try.func23, Try.ntmps23
  go_wp2_with fail
  go_ret
  exact ⟨rfl, Below.refl _ _⟩
theorem nPad (k v : Int) (w : World) : Calls Try.prog 17 #[.pointer none, .int .i64 k, .int .u16 v] w (Says w (.int .i64 1)) := by
  go_enter Try.func17, Try.ntmps17
  go_wp2_with fail
  go_ret
  exact ⟨rfl, Below.refl _ _⟩
theorem nLoad (v : Value) (w : World) : Calls Try.prog 24 #[.pointer none, v] w (Says w (.int .i64 1)) := by
  go_enter Try.func24, Try.ntmps24
  go_wp2_with fail
  go_ret
  exact ⟨rfl, Below.refl _ _⟩
theorem nOver (b : Bool) (w : World) : Calls Try.prog 12 #[.pointer none, .bool b] w (Says w (.tuple #[])) := by
  go_enter Try.func12, Try.ntmps12
  go_wp2_with fail
  go_end0
  exact ⟨rfl, Below.refl _ _⟩
theorem nWrite (p v : Int) (w : World) : Calls Try.prog 9 #[.pointer none, .int .u16 p, .int .u8 v] w (Says w (.bool false)) := by
  go_enter Try.func9, Try.ntmps9
  go_wp2_with fail
  go_ret
  exact ⟨rfl, belowA (Below.refl _ _) _⟩
end Go.Proofs.Ytniagcbajjmopaa
