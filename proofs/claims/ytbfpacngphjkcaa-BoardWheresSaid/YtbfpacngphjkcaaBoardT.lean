/- Read and Write. -/
import Derived.Test.YtbfpacngphjkcaaBoardC
namespace Go.Proofs.Ytbfpacngphjkcaa
open Go.RowKit
set_option linter.unusedVariables false
set_option linter.unusedSimpArgs false

/-- What kinds there are, and that a byte's number is one. -/
theorem spot_is (lay : Int) (n r : Nat) (b p : Int) (b0 : 0 ≤ b) (b1 : b ≤ 255) (p0 : 0 ≤ p) (p1 : p ≤ 65535) (s1 : 1 ≤ n) (s2 : n ≤ 8388608) :
    (spot lay n r b p = (0, 0)) ∨ (∃ k : Nat, k < n ∧ spot lay n r b p = (1, (k : Int))) ∨ (∃ k : Nat, k < r ∧ spot lay n r b p = (2, (k : Int))) := by
  unfold spot
  by_cases nb : b = 126 ∨ b = 127
  · rw [if_pos nb]; exact Or.inl rfl
  rw [if_neg nb]
  by_cases hl : lay = 1
  · rw [if_pos hl]
    by_cases h1 : loRam b p = true ∧ 0 < r
    · rw [if_pos h1]
      refine Or.inr (Or.inr ⟨((b % 16 * 32768 + p) % r).toNat, ?_, ?_⟩)
      · have := Int.emod_lt_of_pos (b % 16 * 32768 + p) (show (0 : Int) < r by omega)
        have := Int.emod_nonneg (b % 16 * 32768 + p) (show (r : Int) ≠ 0 by omega)
        omega
      · have := Int.emod_nonneg (b % 16 * 32768 + p) (show (r : Int) ≠ 0 by omega)
        rw [Int.toNat_of_nonneg this]
    · rw [if_neg h1]
      by_cases h2 : loRom p = true
      · rw [if_pos h2]
        exact Or.inr (Or.inl ⟨_, place_lt n _ n (Nat.le_refl _) s1 (by omega), rfl⟩)
      · rw [if_neg h2]; exact Or.inl rfl
  · rw [if_neg hl]
    by_cases h1 : hiRam b p = true ∧ 0 < r
    · rw [if_pos h1]
      refine Or.inr (Or.inr ⟨((b % 32 * 8192 + p - 24576) % r).toNat, ?_, ?_⟩)
      · have := Int.emod_lt_of_pos (b % 32 * 8192 + p - 24576) (show (0 : Int) < r by omega)
        have := Int.emod_nonneg (b % 32 * 8192 + p - 24576) (show (r : Int) ≠ 0 by omega)
        omega
      · have := Int.emod_nonneg (b % 32 * 8192 + p - 24576) (show (r : Int) ≠ 0 by omega)
        rw [Int.toNat_of_nonneg this]
    · rw [if_neg h1]
      by_cases h2 : hiRom b p = true
      · rw [if_pos h2]
        exact Or.inr (Or.inl ⟨_, place_lt n _ n (Nat.le_refl _) s1 (by omega), rfl⟩)
      · rw [if_neg h2]; exact Or.inl rfl
end Go.Proofs.Ytbfpacngphjkcaa
