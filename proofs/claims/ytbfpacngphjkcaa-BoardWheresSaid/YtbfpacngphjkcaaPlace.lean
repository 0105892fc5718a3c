/- Plain: where byte 'a' of a mirrored rom of so many bytes lies (no program). -/
import Derived.Lib.IndexBytes
import Derived.Shelf.Small.Bits
namespace Go.Proofs.Ytbfpacngphjkcaa

theorem bitLenAux_spec : ∀ (f x : Nat), x < 2 ^ f → x < 2 ^ Lib.bitLenAux f x ∧ (x ≠ 0 → 1 ≤ Lib.bitLenAux f x ∧ 2 ^ (Lib.bitLenAux f x - 1) ≤ x) ∧ Lib.bitLenAux f x ≤ f
  | 0, x, h => by simp at h; subst h; simp [Lib.bitLenAux]
  | f + 1, x, h => by
    unfold Lib.bitLenAux
    by_cases hx : x = 0
    · simp [hx]
    · rw [if_neg hx]
      obtain ⟨h1, h2, h3⟩ := bitLenAux_spec f (x / 2) (by rw [Nat.pow_succ] at h; omega)
      refine ⟨by rw [Nat.add_comm, Nat.pow_succ]; omega, fun _ => ⟨by omega, ?_⟩, by omega⟩
      by_cases h0 : x / 2 = 0
      · have : x = 1 := by omega
        subst this
        have : Lib.bitLenAux f 0 = 0 := by cases f <;> simp [Lib.bitLenAux]
        simp [this]
      · obtain ⟨a, b⟩ := h2 h0
        obtain ⟨k, hk⟩ : ∃ k, Lib.bitLenAux f (x / 2) = k + 1 := ⟨_, (Nat.succ_pred_eq_of_pos a).symm⟩
        rw [hk] at b ⊢
        simp at b
        rw [show 1 + (k + 1) - 1 = k + 1 by omega, Nat.pow_succ]
        omega

/-- The least power of two that is not below it; the greatest not above it. -/
def up (s : Nat) : Nat := 2 ^ Lib.bitLen (s - 1)
def down (s : Nat) : Nat := 2 ^ (Lib.bitLen s - 1)

theorem le_up {s : Nat} (h : 1 ≤ s) (h1 : s < 2 ^ 64) : s ≤ up s := by
  have := (bitLenAux_spec 64 (s - 1) (by omega)).1
  unfold up Lib.bitLen; omega
theorem up_lt {s : Nat} (h : 2 ≤ s) (h1 : s < 2 ^ 64) : up s < 2 * s := by
  obtain ⟨_, b, _⟩ := bitLenAux_spec 64 (s - 1) (by omega)
  obtain ⟨b1, b2⟩ := b (by omega)
  unfold up Lib.bitLen
  obtain ⟨k, hk⟩ : ∃ k, Lib.bitLenAux 64 (s - 1) = k + 1 := ⟨_, (Nat.succ_pred_eq_of_pos b1).symm⟩
  rw [hk] at b2 ⊢
  simp at b2
  rw [Nat.pow_succ]; omega
theorem down_le {s : Nat} (h : 1 ≤ s) (h1 : s < 2 ^ 64) : down s ≤ s := ((bitLenAux_spec 64 s h1).2.1 (by omega)).2
theorem lt_down {s : Nat} (h : 1 ≤ s) (h1 : s < 2 ^ 64) : s < 2 * down s := by
  obtain ⟨a, b, _⟩ := bitLenAux_spec 64 s h1
  obtain ⟨b1, _⟩ := b (by omega)
  unfold down Lib.bitLen
  obtain ⟨k, hk⟩ : ∃ k, Lib.bitLenAux 64 s = k + 1 := ⟨_, (Nat.succ_pred_eq_of_pos b1).symm⟩
  rw [hk] at a ⊢
  rw [Nat.pow_succ] at a
  simp; omega
theorem down_pos (s : Nat) : 1 ≤ down s := Nat.one_le_two_pow
theorem up_pos (s : Nat) : 1 ≤ up s := Nat.one_le_two_pow
/-- Powers of two are told by where they lie. -/
theorem pow_one {x i j : Nat} (a : x ≤ 2 ^ i) (b : 2 ^ i < 2 * x) (c : x ≤ 2 ^ j) (d : 2 ^ j < 2 * x) : i = j := by
  rcases Nat.lt_trichotomy i j with h | h | h
  · have : 2 ^ (i + 1) ≤ 2 ^ j := Nat.pow_le_pow_right (by omega) (by omega)
    rw [Nat.pow_succ] at this; omega
  · exact h
  · have : 2 ^ (j + 1) ≤ 2 ^ i := Nat.pow_le_pow_right (by omega) (by omega)
    rw [Nat.pow_succ] at this; omega
theorem pow_one' {x i j : Nat} (a : 2 ^ i ≤ x) (b : x < 2 * 2 ^ i) (c : 2 ^ j ≤ x) (d : x < 2 * 2 ^ j) : i = j := by
  rcases Nat.lt_trichotomy i j with h | h | h
  · have : 2 ^ (i + 1) ≤ 2 ^ j := Nat.pow_le_pow_right (by omega) (by omega)
    rw [Nat.pow_succ] at this; omega
  · exact h
  · have : 2 ^ (j + 1) ≤ 2 ^ i := Nat.pow_le_pow_right (by omega) (by omega)
    rw [Nat.pow_succ] at this; omega
/-- Where it is not a power of two the one below is truly below. -/
theorem down_lt {s : Nat} (h : 1 ≤ s) (h1 : s < 2 ^ 64) (hu : s < up s) : down s < s := by
  rcases Nat.lt_or_ge (down s) s with k | k
  · exact k
  · exfalso
    have e : down s = s := Nat.le_antisymm (down_le h h1) k
    by_cases h2 : 2 ≤ s
    · have u1 := up_lt h2 h1
      have u2 := le_up h h1
      have : Lib.bitLen (s - 1) = Lib.bitLen s - 1 := by
        apply pow_one (x := s)
        · exact u2
        · exact u1
        · show s ≤ down s; omega
        · show down s < 2 * s; omega
      have : up s = down s := by unfold up down; rw [this]
      omega
    · have : s = 1 := by omega
      subst this
      have : up 1 = 1 := by decide
      omega

/-- Where it lies; fuel: not fewer than the size. -/
def placeN : Nat → Nat → Nat → Nat
  | 0, a, _ => a
  | f + 1, a, s => if a < s then a else if a % up s < s then a % up s else down s + placeN f (a % up s - down s) (s - down s)
def place (a s : Nat) : Nat := placeN s a s

theorem placeN_fuel : ∀ (f g a s : Nat), 1 ≤ s → s < 2 ^ 64 → s ≤ f → s ≤ g → placeN f a s = placeN g a s
  | 0, _, _, _, h, _, h2, _ => by omega
  | _ + 1, 0, _, _, h, _, _, h3 => by omega
  | f + 1, g + 1, a, s, h, h1, h2, h3 => by
    unfold placeN
    by_cases c : a < s
    · simp [c]
    · by_cases d : a % up s < s
      · simp [c, d]
      · rw [if_neg c, if_neg d, if_neg c, if_neg d]
        have hu : s < up s := by have := Nat.mod_lt a (up_pos s); omega
        have := down_lt h h1 hu
        have := down_pos s
        rw [placeN_fuel f g _ (s - down s) (by omega) (by omega) (by omega) (by omega)]
theorem place_in {a s : Nat} (h : a < s) : place a s = a := by
  unfold place
  obtain ⟨k, rfl⟩ : ∃ k, s = k + 1 := ⟨s - 1, by omega⟩
  simp [placeN, h]
theorem place_mod {a s : Nat} (h : ¬ a < s) (h1 : 1 ≤ s) (d : a % up s < s) : place a s = a % up s := by
  unfold place
  obtain ⟨k, rfl⟩ : ∃ k, s = k + 1 := ⟨s - 1, by omega⟩
  simp [placeN, h, d]
theorem place_rest {a s : Nat} (h : ¬ a < s) (h1 : 1 ≤ s) (h2 : s < 2 ^ 64) (d : ¬ a % up s < s) : place a s = down s + place (a % up s - down s) (s - down s) := by
  have hu : s < up s := by have := Nat.mod_lt a (up_pos s); omega
  have hd := down_lt h1 h2 hu
  have hp := down_pos s
  unfold place
  obtain ⟨k, rfl⟩ : ∃ k, s = k + 1 := ⟨s - 1, by omega⟩
  conv => lhs; unfold placeN
  rw [if_neg h, if_neg d, placeN_fuel k (k + 1 - down (k + 1)) _ _ (by omega) (by omega) (by omega) (by omega)]
theorem place_lt : ∀ (n a s : Nat), s ≤ n → 1 ≤ s → s < 2 ^ 64 → place a s < s
  | 0, _, _, h, h1, _ => by omega
  | n + 1, a, s, h, h1, h2 => by
    by_cases c : a < s
    · rw [place_in c]; exact c
    · by_cases d : a % up s < s
      · rw [place_mod c h1 d]; exact d
      · have hu : s < up s := by have := Nat.mod_lt a (up_pos s); omega
        have hd := down_lt h1 h2 hu
        have hp := down_pos s
        rw [place_rest c h1 h2 d]
        have := place_lt n (a % up s - down s) (s - down s) (by omega) (by omega) (by omega)
        omega

end Go.Proofs.Ytbfpacngphjkcaa
