/- Room. -/
import Derived.Test.YtfigepnpegnhkaaClkK
namespace Go.Proofs.Ytfigepnpegnhkaa
open Go Go.RowKit Go.Shelf
attribute [local go_sem] Oper.semAt_some
set_option linter.unusedVariables false
set_option linter.unusedSimpArgs false
set_option maxRecDepth 100000
/-- Would another one be next, with t ticks more? -/
def Lost (n : Nat) (S T : Nat → Int) (i : Nat) (t : Int) : Prop := ∃ k, k < n ∧ k ≠ i ∧ (T k < T i + t * S i ∨ (T k = T i + t * S i ∧ k < i))
/-- How much room a thread has. -/
def IsRoom (n : Nat) (S T : Nat → Int) (i : Nat) (r : Int) : Prop := 0 ≤ r ∧ r ≤ 1073741824 ∧ (∀ t, 0 ≤ t → t < r → ¬ Lost n S T i t) ∧ (r < 1073741824 → Lost n S T i r)
theorem Lost.mono {n : Nat} {S T : Nat → Int} {i : Nat} {t u : Int} (h : Lost n S T i t) (hu : t ≤ u) (hs : 1 ≤ S i) : Lost n S T i u := by
  obtain ⟨k, h1, h2, h3⟩ := h
  have hm : t * S i ≤ u * S i := Int.mul_le_mul_of_nonneg_right hu (by omega)
  refine ⟨k, h1, h2, ?_⟩
  by_cases e : t * S i = u * S i
  · rw [← e]; exact h3
  · left; omega
theorem IsRoom.uniq {n : Nat} {S T : Nat → Int} {i : Nat} {r r' : Int} (h : IsRoom n S T i r) (h' : IsRoom n S T i r') : r = r' := by
  obtain ⟨a0, a1, a2, a3⟩ := h
  obtain ⟨b0, b1, b2, b3⟩ := h'
  by_cases c : r < r'
  · exact absurd (a3 (by omega)) (b2 r a0 c)
  · by_cases c2 : r' < r
    · exact absurd (b3 (by omega)) (a2 r' b0 c2)
    · omega
theorem room_one {n : Nat} {S T : Nat → Int} {i : Nat} (hi : i < n) (h : n = 1) : IsRoom n S T i 1073741824 := by
  refine ⟨by omega, by omega, fun t _ _ hl => ?_, fun h => absurd h (by omega)⟩
  obtain ⟨k, h1, h2, _⟩ := hl
  omega
/-- Of the least other one alone it hangs. -/
theorem lost_iff {n : Nat} {S T : Nat → Int} {i k : Nat} {t : Int} (hk : k < n) (hki : k ≠ i) (hl : ∀ j, j < n → j ≠ i → j ≠ k → ahd T k j) : Lost n S T i t ↔ (T k < T i + t * S i ∨ (T k = T i + t * S i ∧ k < i)) := by
  constructor
  · rintro ⟨j, h1, h2, h3⟩
    by_cases e : j = k
    · rw [← e]; exact h3
    · have := hl j h1 h2 e
      unfold ahd at this
      omega
  · intro h; exact ⟨k, hk, hki, h⟩
theorem room_zero {n : Nat} {S T : Nat → Int} {i k : Nat} (hk : k < n) (hki : k ≠ i) (h : T k - T i < 0 ∨ (T k - T i = 0 ∧ k < i)) : IsRoom n S T i 0 := by
  refine ⟨by omega, by omega, fun t h1 h2 => by omega, fun _ => ⟨k, hk, hki, ?_⟩⟩
  rw [Int.zero_mul]; omega
theorem room_some {n : Nat} {S T : Nat → Int} {i k : Nat} (hk : k < n) (hki : k ≠ i) (hs : 1 ≤ S i) (hl : ∀ j, j < n → j ≠ i → j ≠ k → ahd T k j) (h : ¬ (T k - T i < 0 ∨ (T k - T i = 0 ∧ k < i))) (q m : Int) (hq : (T k - T i) / S i = q) (hm : (T k - T i) % S i = m) (r : Int) (hr : r = if i < k ∨ m ≠ 0 then q + 1 else q) :
    IsRoom n S T i (min r 1073741824) := by
  have e := Int.mul_ediv_add_emod (T k - T i) (S i)
  rw [hq, hm] at e
  have m0 : 0 ≤ m := by rw [← hm]; exact Int.emod_nonneg _ (by omega)
  have m1 : m < S i := by rw [← hm]; exact Int.emod_lt_of_pos _ (by omega)
  have q0 : 0 ≤ q := by rw [← hq]; exact Int.ediv_nonneg (by omega) (by omega)
  obtain ⟨s, hs'⟩ : ∃ s, S i = s := ⟨_, rfl⟩
  have key : ∀ t, 0 ≤ t → (Lost n S T i t ↔ r ≤ t) := by
    intro t ht
    rw [lost_iff hk hki hl]
    rw [hs'] at e m1 hs ⊢
    have hc : q * s = s * q := Int.mul_comm _ _
    constructor
    · intro h2
      by_cases c : i < k ∨ m ≠ 0
      · rw [if_pos c] at hr
        by_cases c2 : t ≤ q
        · have : t * s ≤ q * s := Int.mul_le_mul_of_nonneg_right c2 (by omega)
          omega
        · omega
      · rw [if_neg c] at hr
        by_cases c2 : t < q
        · have : (t + 1) * s ≤ q * s := Int.mul_le_mul_of_nonneg_right (by omega) (by omega)
          rw [Int.add_mul, Int.one_mul] at this
          omega
        · omega
    · intro h2
      by_cases c : i < k ∨ m ≠ 0
      · rw [if_pos c] at hr
        have : (q + 1) * s ≤ t * s := Int.mul_le_mul_of_nonneg_right (by omega) (by omega)
        rw [Int.add_mul, Int.one_mul] at this
        omega
      · rw [if_neg c] at hr
        have : q * s ≤ t * s := Int.mul_le_mul_of_nonneg_right (by omega) (by omega)
        omega
  have r0 : 0 ≤ r := by rw [hr]; split <;> omega
  refine ⟨by omega, by omega, fun t h1 h2 hl => ?_, fun h2 => ?_⟩
  · have := (key t h1).1 hl; omega
  · rw [show min r 1073741824 = r by omega]; exact (key r r0).2 (by omega)
/-- What Room says. -/
def RoomP (W : World) (n : Nat) (S T : Nat → Int) (i : Nat) (e : Ending) (w' : World) : Prop := ∃ r, IsRoom n S T i r ∧ e = .returned (.tuple #[.int .i64 r, .int .i64 0]) ∧ Below W.heap.size W w'
end Go.Proofs.Ytfigepnpegnhkaa
