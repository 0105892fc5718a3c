/- Next: the program's and the document's; reach.Direct, reach.Next. -/
import Derived.Test.YtmejjejafimhfaaReachA
namespace Go.Proofs.Ytmejjejafimhfaa
open Go.RowKit
set_option linter.unusedVariables false
set_option linter.unusedSimpArgs false

/-- The place behind a place. -/
def nextOf (ad : Int) (bk : Bool) : Int := if bk = true then ad % 16777216 / 65536 * 65536 + (ad % 16777216 + 1) % 65536 else (ad % 16777216 + 1) % 16777216
theorem nextOf_rng (ad : Int) (bk : Bool) : 0 ≤ nextOf ad bk ∧ nextOf ad bk ≤ 16777215 := by unfold nextOf; split <;> omega
theorem clear16 (x : Int) (h0 : 0 ≤ x) (h1 : x ≤ 16777215) : bits .andNot .u32 x 65535 = x / 65536 * 65536 := by
  have := u32_andNot_nat x.toNat 65535 (by omega) (by omega)
  rw [Int.toNat_of_nonneg h0] at this
  have e : x.toNat &&& (4294967295 - 65535) = x.toNat / 65536 * 65536 := by
    apply Nat.eq_of_testBit_eq
    intro i
    have h2 : x.toNat / 65536 * 65536 = 2 ^ 16 * (x.toNat / 2 ^ 16) := by omega
    have h3 : (4294967295 - 65535 : Nat) = 2 ^ 16 * 65535 := by decide
    rw [h2, h3, Nat.testBit_and, Nat.testBit_two_pow_mul, Nat.testBit_two_pow_mul, Nat.testBit_div_two_pow]
    by_cases c : 16 ≤ i
    · have h4 : (65535 : Nat).testBit (i - 16) = decide (i - 16 < 16) := Nat.testBit_two_pow_sub_one 16 (i - 16)
      rw [h4]
      simp only [c, decide_true, Bool.true_and]
      rw [show i - 16 + 16 = i by omega]
      by_cases d : i - 16 < 16
      · simp [d]
      · have : x.toNat.testBit i = false := Nat.testBit_lt_two_pow (Nat.lt_of_lt_of_le (show x.toNat < 2 ^ 24 by omega) (Nat.pow_le_pow_right (by omega) (by omega)))
        simp [d, this]
    · simp [c]
  rw [e, show ((65535 : Nat) : Int) = 65535 from rfl] at this
  rw [this]; omega

section
variable (ad : Int) (bk : Bool) (w : World) (a0 : 0 ≤ ad) (a1 : ad ≤ 4294967295)
include a0 a1
set_option maxHeartbeats 1000000 in
theorem wnext : Calls Try.prog 21 #[placeV ad bk] w fun r w' => r = .returned (placeV (nextOf ad bk) bk) ∧ Below w.heap.size w w' := by
  have e1 := and24_32 ad a0 a1
  obtain ⟨z, hz⟩ : ∃ z, ad % 16777216 = z := ⟨_, rfl⟩
  have z0 : 0 ≤ z := by omega
  have z1 : z ≤ 16777215 := by omega
  rw [hz] at e1
  have e2 := clear16 z z0 z1
  have e3 := and65535_32 (z + 1) (by omega) (by omega)
  have e4 := or_low 16 (by omega) (z / 65536 * 65536) ((z + 1) % 65536) (by omega) (by omega) (by omega) (by omega) (by omega)
  have e5 := and24_32 (z + 1) (by omega) (by omega)
  have HZ := Lib.hid hz
  clear hz
  cases bk
  all_goals
    go_enter Try.func21, Try.ntmps21
    go_wp2_with fail
    exact bodyPost_ret (v := placeV (nextOf ad _) _) (by have := HZ.out; simp [results, Try.results21, go_sem, nextOf, this]; first | rfl | done) rfl ⟨rfl, by repeat (first | exact Below.refl _ _ | apply belowD | apply belowA)⟩
set_option maxHeartbeats 1000000 in
theorem dnext : Calls Try.prog 14 #[placeV ad bk] w fun r w' => r = .returned (placeV (nextOf ad bk) bk) ∧ Below w.heap.size w w' := by
  obtain ⟨z, hz⟩ : ∃ z, ad % 16777216 = z := ⟨_, rfl⟩
  have z0 : 0 ≤ z := by omega
  have z1 : z ≤ 16777215 := by omega
  cases bk
  all_goals
    go_enter Try.func14, Try.ntmps14
    go_wp2_with fail
    exact bodyPost_ret (v := placeV (nextOf ad _) _) (by simp [results, Try.results14, go_sem, nextOf, hz]; first | rfl | done) rfl ⟨rfl, by repeat (first | exact Below.refl _ _ | apply belowD | apply belowA)⟩
theorem rnext : Calls Try.prog 13 #[placeV ad bk] w fun r w' => r = .returned (placeV (nextOf ad bk) bk) ∧ Below w.heap.size w w' := by
  go_enter Try.func13, Try.ntmps13
  go_wp2_with fail
  refine (wnext ad bk _ a0 a1).mono ?_
  rintro r w' ⟨rfl, hb⟩
  obtain ⟨xx, rfl⟩ := more_of_below hb
  clear hb
  go_wp2_with fail
  exact bodyPost_ret (v := placeV (nextOf ad bk) bk) (by simp [results, Try.results13, go_sem]) rfl ⟨rfl, by repeat (first | exact Below.refl _ _ | apply belowD | apply belowM | apply belowA)⟩
end
theorem rdirect (a x y s d pc b k p n : Int) (e : Bool) (w : World) (d0 : 0 ≤ d) (d1 : d ≤ 65535) (n0 : 0 ≤ n) (n1 : n ≤ 4294967295) :
    Calls Try.prog 11 #[regsV a x y s d pc b k p e, .int .u32 n] w fun r w' => r = .returned (.int .u32 (directOf d e n)) ∧ Below w.heap.size w w' := by
  go_enter Try.func11, Try.ntmps11
  go_wp2_with fail
  refine (wdirect a x y s d pc b k p n e _ d0 d1 n0 n1).mono ?_
  rintro r w' ⟨rfl, hb⟩
  obtain ⟨xx, rfl⟩ := more_of_below hb
  clear hb
  go_wp2_with fail
  go_ret
  exact ⟨rfl, by repeat (first | exact Below.refl _ _ | apply belowD | apply belowM | apply belowA)⟩
end Go.Proofs.Ytmejjejafimhfaa
