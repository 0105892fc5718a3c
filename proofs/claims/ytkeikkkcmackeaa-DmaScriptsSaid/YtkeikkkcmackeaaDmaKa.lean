/- dma, plain: bits of a byte. -/
import Derived.Test.YtkeikkkcmackeaaDmaV
import Derived.Test.YtkeikkkcmackeaaDmaLs
namespace Go.Proofs.Ytkeikkkcmackeaa
open Go.RowKit
set_option linter.unusedVariables false
set_option linter.unusedSimpArgs false
set_option maxRecDepth 100000
theorem bitN_nat (n k : Nat) : bitN (n : Int) k = if n.testBit k then 1 else 0 := by
  unfold bitN
  rw [Nat.testBit_eq_decide_div_mod_eq]
  have e : ((n : Int) / 2 ^ k % 2) = ((n / 2 ^ k % 2 : Nat) : Int) := by
    rw [Int.natCast_emod, Int.natCast_ediv, Int.natCast_pow]; rfl
  rw [e]
  rcases Nat.mod_two_eq_zero_or_one (n / 2 ^ k) with h | h <;> simp [h]
theorem bitN_01 (x : Int) (k : Nat) : bitN x k = 0 ∨ bitN x k = 1 := by unfold bitN; omega
theorem bitN_of {x : Int} {k : Nat} (x0 : 0 ≤ x) : bitN x k = if x.toNat.testBit k then 1 else 0 := by
  have := bitN_nat x.toNat k
  rwa [Int.toNat_of_nonneg x0] at this
theorem byte_ext {x y : Int} (x0 : 0 ≤ x) (x1 : x ≤ 255) (y0 : 0 ≤ y) (y1 : y ≤ 255) (h : ∀ k, k < 8 → bitN x k = bitN y k) : x = y := by
  have h0 := h 0 (by omega)
  have h1 := h 1 (by omega)
  have h2 := h 2 (by omega)
  have h3 := h 3 (by omega)
  have h4 := h 4 (by omega)
  have h5 := h 5 (by omega)
  have h6 := h 6 (by omega)
  have h7 := h 7 (by omega)
  unfold bitN at *
  simp only [Int.reducePow] at *
  omega
theorem u8_or_rng' (x y : Int) (x0 : 0 ≤ x) (x1 : x ≤ 255) (y0 : 0 ≤ y) (y1 : y ≤ 255) : 0 ≤ bits .or .u8 x y ∧ bits .or .u8 x y ≤ 255 := by
  have := u8_or_nat x.toNat y.toNat (by omega) (by omega)
  rw [Int.toNat_of_nonneg x0, Int.toNat_of_nonneg y0] at this
  rw [this]
  have : x.toNat ||| y.toNat < 2 ^ 8 := Nat.or_lt_two_pow (by omega) (by omega)
  omega
theorem bitN_or {x y : Int} (x0 : 0 ≤ x) (x1 : x ≤ 255) (y0 : 0 ≤ y) (y1 : y ≤ 255) (k : Nat) : bitN (bits .or .u8 x y) k = if bitN x k = 1 ∨ bitN y k = 1 then 1 else 0 := by
  have := u8_or_nat x.toNat y.toNat (by omega) (by omega)
  rw [Int.toNat_of_nonneg x0, Int.toNat_of_nonneg y0] at this
  rw [this, bitN_nat, Nat.testBit_or, bitN_of x0, bitN_of y0]
  cases x.toNat.testBit k <;> cases y.toNat.testBit k <;> simp
theorem not_bit (y : Nat) (h : y ≤ 255) (k : Nat) (hk : k < 8) : (255 - y).testBit k = !y.testBit k := by
  have h' : ∀ (y : Fin 256) (k : Fin 8), (255 - y.val).testBit k.val = !y.val.testBit k.val := by decide +kernel
  exact h' ⟨y, by omega⟩ ⟨k, hk⟩
theorem bitN_andNot {x y : Int} (x0 : 0 ≤ x) (x1 : x ≤ 255) (y0 : 0 ≤ y) (y1 : y ≤ 255) (k : Nat) (hk : k < 8) : bitN (bits .andNot .u8 x y) k = if bitN x k = 1 ∧ bitN y k ≠ 1 then 1 else 0 := by
  have := u8_andNot_nat x.toNat y.toNat (by omega) (by omega)
  rw [Int.toNat_of_nonneg x0, Int.toNat_of_nonneg y0] at this
  rw [this, bitN_nat, Nat.testBit_and, not_bit _ (by omega) k hk, bitN_of x0, bitN_of y0]
  cases x.toNat.testBit k <;> cases y.toNat.testBit k <;> simp
theorem bitN_bitOf (c k : Nat) (hc : c < 8) (hk : k < 8) : bitN (bitOf c) k = if k = c then 1 else 0 := by
  have h : ∀ (c k : Fin 8), bitN (bitOf c.val) k.val = if k.val = c.val then 1 else 0 := by decide +kernel
  exact h ⟨c, hc⟩ ⟨k, hk⟩
theorem bitOf_rng (c : Nat) (hc : c < 8) : 0 ≤ bitOf c ∧ bitOf c ≤ 255 := ⟨(bit_rng c hc).1, (bit_rng c hc).2.1⟩
theorem pt_rng' {x : Int} (c : Nat) (hc : c < 8) (b : Bool) (x0 : 0 ≤ x) (x1 : x ≤ 255) : 0 ≤ pt x (bitOf c) b ∧ pt x (bitOf c) b ≤ 255 := by
  obtain ⟨b0, b1⟩ := bitOf_rng c hc
  have h := u8_andNot_rng x (bitOf c) x0 x1 b0 b1
  unfold pt
  cases b
  · exact h
  · exact u8_or_rng' _ _ h.1 h.2 b0 b1
theorem bitN_pt {x : Int} (c : Nat) (hc : c < 8) (b : Bool) (x0 : 0 ≤ x) (x1 : x ≤ 255) (k : Nat) (hk : k < 8) : bitN (pt x (bitOf c) b) k = if k = c then (if b then 1 else 0) else bitN x k := by
  obtain ⟨b0, b1⟩ := bitOf_rng c hc
  have h := u8_andNot_rng x (bitOf c) x0 x1 b0 b1
  have ha := bitN_andNot x0 x1 b0 b1 k hk
  rw [bitN_bitOf c k hc hk] at ha
  unfold pt
  cases b
  · rw [if_neg (by decide), ha]
    by_cases e : k = c
    · simp [e]
    · simp only [e, if_false]
      rcases bitN_01 x k with z | z <;> simp [z]
  · rw [if_pos rfl, bitN_or h.1 h.2 b0 b1 k, ha, bitN_bitOf c k hc hk]
    by_cases e : k = c
    · simp [e]
    · simp only [e, if_false]
      rcases bitN_01 x k with z | z <;> simp [z]
/-- The document's 'with'. -/
theorem with_is (x : Int) (c : Nat) (hc : c < 8) (b : Bool) (x0 : 0 ≤ x) (x1 : x ≤ 255) : (if bitN x c = 1 then x - 2 ^ c else x) + (if b then 2 ^ c else 0) = pt x (bitOf c) b := by
  have h : ∀ (c : Fin 8) (x : Fin 256) (b : Bool), (if bitN (x.val : Int) c.val = 1 then (x.val : Int) - 2 ^ c.val else (x.val : Int)) + (if b then 2 ^ c.val else 0) = pt (x.val : Int) (bitOf c.val) b := by decide +kernel
  have := h ⟨c, hc⟩ ⟨x.toNat, by omega⟩ b
  simp only [Int.toNat_of_nonneg x0] at this
  exact this
theorem pt_true (x : Int) (c : Nat) (hc : c < 8) (x0 : 0 ≤ x) (x1 : x ≤ 255) : pt x (bitOf c) true = bits .or .u8 x (bitOf c) := by
  obtain ⟨b0, b1⟩ := bitOf_rng c hc
  obtain ⟨p0, p1⟩ := pt_rng' c hc true x0 x1
  obtain ⟨q0, q1⟩ := u8_or_rng' x (bitOf c) x0 x1 b0 b1
  refine byte_ext p0 p1 q0 q1 fun k hk => ?_
  rw [bitN_pt c hc true x0 x1 k hk, bitN_or x0 x1 b0 b1 k, bitN_bitOf c k hc hk]
  by_cases e : k = c
  · simp [e]
  · simp only [e, if_false]
    rcases bitN_01 x k with z | z <;> simp [z]
theorem pt_false (x : Int) (c : Nat) : pt x (bitOf c) false = bits .andNot .u8 x (bitOf c) := rfl
/-- Some channels, put one by one. -/
theorem or_steps {m v x : Int} (m0 : 0 ≤ m) (m1 : m ≤ 255) (v0 : 0 ≤ v) (v1 : v ≤ 255) (x0 : 0 ≤ x) (x1 : x ≤ 255) (h : ∀ k, k < 8 → bitN x k = if bitN m k = 1 ∨ bitN v k = 1 then 1 else 0) : x = bits .or .u8 m v := by
  obtain ⟨q0, q1⟩ := u8_or_rng' m v m0 m1 v0 v1
  exact byte_ext x0 x1 q0 q1 fun k hk => by rw [h k hk, bitN_or m0 m1 v0 v1 k]
theorem andNot_steps {m v x : Int} (m0 : 0 ≤ m) (m1 : m ≤ 255) (v0 : 0 ≤ v) (v1 : v ≤ 255) (x0 : 0 ≤ x) (x1 : x ≤ 255) (h : ∀ k, k < 8 → bitN x k = if bitN m k = 1 ∧ bitN v k ≠ 1 then 1 else 0) : x = bits .andNot .u8 m v := by
  obtain ⟨q0, q1⟩ := u8_andNot_rng m v m0 m1 v0 v1
  exact byte_ext x0 x1 q0 q1 fun k hk => by rw [h k hk, bitN_andNot m0 m1 v0 v1 k hk]
theorem low_first {x : Int} (h0 : 1 ≤ x) (h1 : x ≤ 255) : lowC x < 8 ∧ First x (lowC x) := ⟨(low_lt x h0 h1).1, h0, h1, (low_lt x h0 h1).2⟩
theorem first_low {x : Int} {c : Nat} (h : First x c) : lowC x = c := by unfold lowC; rw [h.2.2]; rfl
theorem low_bit (x : Int) (h0 : 1 ≤ x) (h1 : x ≤ 255) : bitN x (lowC x) = 1 := byte_fact (P := fun x => 1 ≤ x → bitN x (lowC x) = 1) (by decide +kernel) x (by omega) h1 h0
theorem low_drop (x : Int) (h0 : 1 ≤ x) (h1 : x ≤ 255) : bits .andNot .u8 x (bitOf (lowC x)) < x := byte_fact (P := fun x => 1 ≤ x → bits .andNot .u8 x (bitOf (lowC x)) < x) (by decide +kernel) x (by omega) h1 h0
end Go.Proofs.Ytkeikkkcmackeaa
