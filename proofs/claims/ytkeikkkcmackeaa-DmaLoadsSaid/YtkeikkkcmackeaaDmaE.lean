/- Done while nothing is under way with tables; the statements' own small functions; awake. -/
import Derived.Test.YtkeikkkcmackeaaDmaP
namespace Go.Proofs.Ytkeikkkcmackeaa
open Go.RowKit
set_option linter.unusedVariables false
set_option linter.unusedSimpArgs false
set_option maxRecDepth 100000

section
variable {w : World} {g : Nat} {f : Nat → Int}
set_option maxHeartbeats 1000000 in
theorem done_move (A : Da w g f) (R : Rng f) (c : Nat) (hc : c < 8) (ho : First (f 96) c) (hw : f 101 = 0) (v : Int) :
    Calls Try.prog 14 #[.pointer (some ⟨g, 0, none⟩), .int .u8 v] w (Wrote w g (doneM c f) (.tuple #[])) := by
  have c101 := A.cell (j := 101) (by omega)
  rw [hw] at c101
  have MD := Lib.hid (moveDone_any A R c hc ho)
  clear A R ho hw
  go_enter Try.func14, Try.ntmps14
  go_wp2_with fail
  refine MD.out.mono ?_
  rintro e w2 ⟨rfl, ha, hu⟩
  have HA := Lib.hid ha
  have HU := Lib.hid hu
  clear ha hu
  go_wp2_with fail
  go_end0
  exact ⟨rfl, HA.out, HU.out⟩
end
set_option maxHeartbeats 1000000 in
theorem step_any (m : Int) (w : World) (m0 : 0 ≤ m) (m1 : m ≤ 255) : Calls Try.prog 12 #[.int .u8 m] w (Says w (.int .i64 (stepAt m))) := by
  have e := and3 (m / 8) (by omega) (by omega)
  unfold stepAt
  obtain ⟨k, hk⟩ : ∃ k, m / 8 % 4 = k := ⟨_, rfl⟩
  rw [hk] at e ⊢
  clear hk
  by_cases k0 : k = 0
  · subst k0
    rw [if_pos rfl]
    go_enter Try.func12, Try.ntmps12
    go_wp2_with fail
    go_ret
    exact ⟨rfl, Below.refl _ _⟩
  by_cases k2 : k = 2
  · subst k2
    rw [if_neg k0, if_pos rfl]
    go_enter Try.func12, Try.ntmps12
    go_wp2_with fail
    go_ret
    exact ⟨rfl, Below.refl _ _⟩
  · rw [if_neg k0, if_neg k2]
    have t0 : (k == 0) = false := by simpa using k0
    have t2 : (k == 2) = false := by simpa using k2
    go_enter Try.func12, Try.ntmps12
    go_wp2_with fail
    go_ret
    exact ⟨rfl, Below.refl _ _⟩
set_option maxHeartbeats 1000000 in
theorem port_any (m : Int) (n : Nat) (w : World) (m0 : 0 ≤ m) (m1 : m ≤ 255) (n1 : n ≤ 65536) : Calls Try.prog 13 #[.int .u8 m, .int .i64 n] w (Says w (.int .u8 (patOf m n))) := by
  have e := and7 m m0 m1
  have hp : patOf m n = patOf (m % 8) n := by
    unfold patOf; rw [Int.emod_emod_of_dvd m (by decide : (8:Int) ∣ 8)]
  rw [hp]
  obtain ⟨k, hk⟩ : ∃ k, m % 8 = k := ⟨_, rfl⟩
  have k0 : 0 ≤ k := by omega
  have k7 : k ≤ 7 := by omega
  rw [hk] at e ⊢
  clear hk hp
  have a0 : 0 ≤ (n : Int) := by omega
  have a1 : (n : Int) ≤ 65536 := by omega
  rcases (show k = 0 ∨ k = 1 ∨ k = 2 ∨ k = 3 ∨ k = 4 ∨ k = 5 ∨ k = 6 ∨ k = 7 by omega) with rfl | rfl | rfl | rfl | rfl | rfl | rfl | rfl
  all_goals
    go_enter Try.func13, Try.ntmps13
    go_wp2_with fail
    go_ret
    refine ⟨?_, Below.refl _ _⟩
    first
      | rfl
      | (simp only [patOf]; rfl)
      | (simp [patOf]; omega)
      | (simp [patOf])
end Go.Proofs.Ytkeikkkcmackeaa
