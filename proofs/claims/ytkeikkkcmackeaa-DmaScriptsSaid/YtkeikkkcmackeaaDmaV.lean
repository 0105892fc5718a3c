/- dma: can a state be? The document's bits; both answers. -/
import Derived.Test.YtkeikkkcmackeaaDmaU
import Derived.Deep.QuietTactic
namespace Go.Proofs.Ytkeikkkcmackeaa
open Go.RowKit
set_option linter.unusedVariables false
set_option linter.unusedSimpArgs false
set_option maxRecDepth 100000
/-- The least channel of some; 8: none. -/
def lowC (x : Int) : Nat := (Lib.ntz8 x).toNat
def bitN (x : Int) (k : Nat) : Int := x / 2 ^ k % 2
theorem low_yes (x : Int) (h0 : 0 ≤ x) (h1 : x ≤ 255) (k : Nat) (hk : k < 8) (h : x % 2 ^ k = 0) (hb : bitN x k = 1) : lowC x = k := by
  have := byte_fact (P := fun x => ∀ k : Fin 8, x % 2 ^ k.val = 0 → bitN x k.val = 1 → lowC x = k.val) (by decide +kernel) x h0 h1
  exact this ⟨k, hk⟩ h hb
theorem low_more (x : Int) (h0 : 0 ≤ x) (h1 : x ≤ 255) (k : Nat) (hk : k < 8) (h : x % 2 ^ k = 0) (hb : bitN x k ≠ 1) : x % 2 ^ (k + 1) = 0 := by
  have := byte_fact (P := fun x => ∀ k : Fin 8, x % 2 ^ k.val = 0 → bitN x k.val ≠ 1 → x % 2 ^ (k.val + 1) = 0) (by decide +kernel) x h0 h1
  exact this ⟨k, hk⟩ h hb
theorem low_zero : lowC 0 = 8 := by decide +kernel
theorem low_lt (x : Int) (h0 : 1 ≤ x) (h1 : x ≤ 255) : lowC x < 8 ∧ Lib.ntz8 x = lowC x := by
  have := byte_fact (P := fun x => x = 0 ∨ (lowC x < 8 ∧ Lib.ntz8 x = lowC x)) (by decide +kernel) x (by omega) h1
  rcases this with e | e
  · omega
  · exact e
theorem and_bit (x : Int) (h0 : 0 ≤ x) (h1 : x ≤ 255) (c : Nat) (hc : c < 8) : (bits .and .u8 x (bitOf c) != 0) = decide (bitN x c = 1) := by
  have := byte_fact (P := fun x => ∀ c : Fin 8, (bits .and .u8 x (bitOf c.val) != 0) = decide (bitN x c.val = 1)) (by decide +kernel) x h0 h1
  exact this ⟨c, hc⟩
section
variable {w : World} {g : Nat} {f : Nat → Int}
set_option maxHeartbeats 4000000 in
theorem bit_any (x : Int) (k : Nat) (hk : k ≤ 8) (w : World) (h0 : 0 ≤ x) (h1 : x ≤ 255) : Calls Try.prog 45 #[.int .u8 x, .int .i64 k] w (Says w (.bool (decide (bitN x k = 1)))) := by
  go_enter Try.func45, Try.ntmps45
  go_wp2_with fail
  go_loopw [0, 5] (fun y i wr => ∃ j : Nat, j ≤ k ∧ i = .int .i64 j ∧ y = .int .u8 (x / 2 ^ j) ∧ wr = w) (fun _ i _ => k - (intOf i).toNat)
  case atStart => exact ⟨0, by omega, rfl, by simp, by first | rfl | trivial⟩
  case round =>
    obtain ⟨j, hj, rfl, rfl, rfl⟩ := hrel
    obtain ⟨y, hy⟩ : ∃ y, x / 2 ^ j = y := ⟨_, rfl⟩
    have y0 : 0 ≤ y := by rw [← hy]; exact Int.ediv_nonneg h0 (Int.pow_nonneg (by omega))
    have y1 : y ≤ 255 := by rw [← hy]; exact Int.le_trans (Int.ediv_le_self _ h0) h1
    have YN : Hid (x / 2 ^ (j + 1) = y / 2) := Lib.hid (by rw [← hy, Int.pow_succ, Int.ediv_ediv_of_nonneg (Int.pow_nonneg (by omega))])
    have HY := Lib.hid hy
    rw [hy]
    clear hy
    by_cases hlt : j < k
    · go_wp2_with fail
      go_roundw
      case rel => exact ⟨j + 1, by omega, by go_num, by first | (rw [YN.out]; done) | (rw [YN.out]; trivial), by first | rfl | trivial⟩
      case measure => simp [intOf]; omega
    · have hjk : j = k := by omega
      subst hjk
      have E : Hid (bitN x j = y % 2) := Lib.hid (by unfold bitN; rw [HY.out])
      clear HY YN
      go_wp2_with fail
      go_ret
      exact ⟨by simp [BEq.beq, E.out], Below.refl _ _⟩
set_option maxHeartbeats 4000000 in
theorem rleast_any (x : Int) (w : World) (h0 : 0 ≤ x) (h1 : x ≤ 255) : Calls Try.prog 51 #[.int .u8 x] w (Says w (.int .i64 (lowC x))) := by
  go_enter Try.func51, Try.ntmps51
  go_wp2_with fail
  go_loopw [3] (fun i wr => ∃ j : Nat, j ≤ 8 ∧ i = .int .i64 j ∧ x % 2 ^ j = 0 ∧ Below w.heap.size w wr) (fun i _ => 8 - (intOf i).toNat)
  case atStart => exact ⟨0, by omega, rfl, by simp, Below.refl _ _⟩
  case round =>
    obtain ⟨j, hj, rfl, hz, hb⟩ := hrel
    have HZ := Lib.hid hz
    have HB := Lib.hid hb
    clear hz hb
    by_cases hlt : j < 8
    · have BI := Lib.hid (fun w => bit_any x j (by omega) w h0 h1)
      by_cases hbit : bitN x j = 1
      · rw [decide_eq_true hbit] at BI
        have E := Lib.hid (low_yes x h0 h1 j hlt HZ.out hbit)
        rw [E.out]
        clear hbit E
        go_wp2_with fail
        refine (BI.out _).mono ?_
        rintro e w2 ⟨rfl, b2⟩
        have B2 := Lib.hid (HB.out.trans (b2.mono HB.out.size))
        clear b2 BI HB
        go_wp2_with fail
        go_ret
        exact ⟨rfl, B2.out⟩
      · rw [decide_eq_false hbit] at BI
        have E := Lib.hid (low_more x h0 h1 j hlt HZ.out hbit)
        clear hbit
        go_wp2_with fail
        refine (BI.out _).mono ?_
        rintro e w2 ⟨rfl, b2⟩
        have B2 := Lib.hid (HB.out.trans (b2.mono HB.out.size))
        clear b2 BI HB
        go_wp2_with fail
        go_roundw
        case rel => exact ⟨j + 1, by omega, by go_num, E.out, B2.out⟩
        case measure => simp [intOf]; omega
    · have hj8 : j = 8 := by omega
      subst hj8
      have hx : x = 0 := by have := HZ.out; omega
      subst hx
      have E := Lib.hid low_zero
      rw [E.out]
      go_wp2_with fail
      go_ret
      exact ⟨rfl, HB.out⟩
/-- Can it be? -/
def canP (f : Nat → Int) : Prop := ¬ 3 < f 97 ∧ ¬ (0 < f 97 ∧ f 96 = 0) ∧ ¬ 2 < f 101 ∧ (f 101 = 0 → f 102 = 0 ∧ f 103 = 0) ∧ (f 101 ≠ 0 → f 102 ≠ 0 ∧ ¬ 10 < f 103 ∧ ¬ (3 < f 103 ∧ f 103 < 8) ∧ (8 ≤ f 103 ∨ (f 101 = 2 ∧ bitN (f 100) (lowC (f 102)) = 1)))
instance (f : Nat → Int) : Decidable (canP f) := by unfold canP; infer_instance
def canD (f : Nat → Int) : Bool := decide (canP f)
/-- The ways without a table. -/
def CanA (x0 x1 xw xb xs : Int) (b : Bool) : Prop :=
  (3 < x1 ∧ b = false) ∨ (¬ 3 < x1 ∧ 0 < x1 ∧ x0 = 0 ∧ b = false) ∨ (¬ 3 < x1 ∧ ¬ 0 < x1 ∧ 2 < xw ∧ b = false) ∨ (¬ 3 < x1 ∧ 0 < x1 ∧ ¬ x0 = 0 ∧ 2 < xw ∧ b = false) ∨
  (¬ 3 < x1 ∧ ¬ 0 < x1 ∧ xw = 0 ∧ ¬ xb = 0 ∧ b = false) ∨ (¬ 3 < x1 ∧ 0 < x1 ∧ ¬ x0 = 0 ∧ xw = 0 ∧ ¬ xb = 0 ∧ b = false) ∨
  (¬ 3 < x1 ∧ ¬ 0 < x1 ∧ xw = 0 ∧ xb = 0 ∧ ¬ xs = 0 ∧ b = false) ∨ (¬ 3 < x1 ∧ 0 < x1 ∧ ¬ x0 = 0 ∧ xw = 0 ∧ xb = 0 ∧ ¬ xs = 0 ∧ b = false) ∨
  (¬ 3 < x1 ∧ ¬ 0 < x1 ∧ xw = 0 ∧ xb = 0 ∧ xs = 0 ∧ b = true) ∨ (¬ 3 < x1 ∧ 0 < x1 ∧ ¬ x0 = 0 ∧ xw = 0 ∧ xb = 0 ∧ xs = 0 ∧ b = true)
/-- The ways with a table: what the least channel is known. -/
def CanB (xw xb xs y : Int) (b : Bool) : Prop :=
  (xb = 0 ∧ b = false) ∨ (¬ xb = 0 ∧ 10 < xs ∧ b = false) ∨ (¬ xb = 0 ∧ 3 < xs ∧ xs < 8 ∧ b = false) ∨ (¬ xb = 0 ∧ ¬ 10 < xs ∧ ¬ xs < 8 ∧ b = true) ∨
  (¬ xb = 0 ∧ ¬ 3 < xs ∧ ¬ xw = 2 ∧ b = false) ∨ (¬ xb = 0 ∧ ¬ 3 < xs ∧ xw = 2 ∧ y ≠ 1 ∧ b = false) ∨ (¬ xb = 0 ∧ ¬ 3 < xs ∧ xw = 2 ∧ y = 1 ∧ b = true)
set_option maxHeartbeats 8000000 in
theorem canP_cases (f : Nat → Int) : ∃ b, canD f = b ∧ (CanA (f 96) (f 97) (f 101) (f 102) (f 103) b ∨ (¬ 3 < f 97 ∧ (¬ 0 < f 97 ∨ (0 < f 97 ∧ ¬ f 96 = 0)) ∧ ¬ f 101 = 0 ∧ ¬ 2 < f 101 ∧ CanB (f 101) (f 102) (f 103) (bitN (f 100) (lowC (f 102))) b)) := by
  by_cases h : canP f
  · refine ⟨true, decide_eq_true h, ?_⟩
    unfold canP at h
    unfold CanA CanB
    generalize bitN (f 100) (lowC (f 102)) = y at h ⊢
    generalize f 96 = x0 at h ⊢
    generalize f 97 = x1 at h ⊢
    generalize f 101 = xw at h ⊢
    generalize f 102 = xb at h ⊢
    generalize f 103 = xs at h ⊢
    simp only [reduceCtorEq, and_false, or_false, false_or, and_true]
    omega
  · refine ⟨false, decide_eq_false h, ?_⟩
    unfold canP at h
    unfold CanA CanB
    generalize bitN (f 100) (lowC (f 102)) = y at h ⊢
    generalize f 96 = x0 at h ⊢
    generalize f 97 = x1 at h ⊢
    generalize f 101 = xw at h ⊢
    generalize f 102 = xb at h ⊢
    generalize f 103 = xs at h ⊢
    simp only [reduceCtorEq, and_false, or_false, false_or, and_true]
    omega
end
end Go.Proofs.Ytkeikkkcmackeaa
