/- Add, where the time grows too large. -/
import Derived.Test.YtfigepnpegnhkaaClkO
import Derived.Test.YtfigepnpegnhkaaOpen
import Derived.ChangeOld
namespace Go.Proofs.Ytfigepnpegnhkaa
open Go.RowKit
set_option linter.unusedVariables false
set_option linter.unusedSimpArgs false
set_option maxRecDepth 100000
section
variable {w w' : World} {g b cap n : Nat} {S T : Nat → Int}
set_option maxHeartbeats 1000000 in
theorem add_large (C : Ck w g b cap n S T) (i : Nat) (hi : i < n) (hn : n ≤ 16) (k : Int) (k0 : 0 ≤ k) (k1 : k ≤ 1073741824) (s0 : 1 ≤ S i) (s1 : S i ≤ 16777216) (t0 : 0 ≤ T i) (t2 : T i ≤ 1152921504606846976) (t1 : 1152921504606846976 < T i + S i * k) :
    Calls Try.prog 14 #[.pointer (some ⟨g, 0, none⟩), .int .i64 i, .int .i64 k] w (Says w (.int .i64 4)) := by
  have F := Lib.hid (find_any C i hi hn)
  have CK := Lib.hid C
  clear C
  obtain ⟨s, hs⟩ : ∃ s, S i = s := ⟨_, rfl⟩
  obtain ⟨t, ht⟩ : ∃ s, T i = s := ⟨_, rfl⟩
  rw [hs] at s0 s1 t1
  rw [ht] at t0 t1 t2
  have HS := Lib.hid hs
  have HT := Lib.hid ht
  clear hs ht
  obtain ⟨m, hm⟩ : ∃ m, s * k = m := ⟨_, rfl⟩
  have hm0 : 0 ≤ m := by rw [← hm]; exact Int.mul_nonneg (by omega) k0
  have hm1 : m ≤ 18014398509481984 := by
    rw [← hm]
    have h1 : s * k ≤ 16777216 * k := Int.mul_le_mul_of_nonneg_right s1 k0
    omega
  rw [hm] at t1
  have q0 : decide (k < 0) = false := decide_eq_false (by omega)
  have q1 : decide (1073741824 < k) = false := decide_eq_false (by omega)
  have q2 : decide (1152921504606846976 - t < m) = true := decide_eq_true (by omega)
  have q2' : 1152921504606846976 - t < m := by omega
  have wm : IntKind.i64.wrap (s * k) = m := by rw [hm]; rw [IntKind.wrap_i64]; omega
  have ws : IntKind.i64.wrap (1152921504606846976 - t) = 1152921504606846976 - t := by rw [IntKind.wrap_i64]; omega
  clear hm
  go_enter Try.func14, Try.ntmps14
  go_wp2_with fail
  refine F.out.mono ?_
  rintro e w1 ⟨rfl, b1⟩
  have CK1 := Lib.hid (CK.out.kept b1)
  have x0 := CK1.out.sc hi
  have x1 := CK1.out.tm hi
  rw [HS.out] at x0
  rw [HT.out] at x1
  have B1 := Lib.hid b1
  clear b1 F CK
  go_wp2_with fail
  go_quiet (fail)
  go_wp2_with fail
  go_ret
  exact ⟨rfl, belowN B1.out nq⟩
/-- What Add says of a thread and ticks that can be. -/
def AddP (W : World) (g b cap n : Nat) (S T : Nat → Int) (i : Nat) (k : Int) (e : Ending) (w' : World) : Prop :=
  (1152921504606846976 < T i + S i * k ∧ e = .returned (.int .i64 4) ∧ Below W.heap.size W w') ∨
  (T i + S i * k ≤ 1152921504606846976 ∧ e = .returned (.int .i64 0) ∧ Ck w' g b cap n S (fun j => if j = i then T i + S i * k else T j) ∧ Upd W b w')
theorem add_all (C : Ck w g b cap n S T) (i : Nat) (hi : i < n) (hn : n ≤ 16) (k : Int) (k0 : 0 ≤ k) (k1 : k ≤ 1073741824) (sc : ∀ j, j < n → 1 ≤ S j ∧ S j ≤ 16777216) (tm : ∀ j, j < n → 0 ≤ T j ∧ T j ≤ 1152921504606846976) :
    Calls Try.prog 14 #[.pointer (some ⟨g, 0, none⟩), .int .i64 i, .int .i64 k] w (AddP w g b cap n S T i k) := by
  by_cases h : T i + S i * k ≤ 1152921504606846976
  · exact (add_any C i hi hn k k0 k1 (sc i hi).1 (sc i hi).2 (tm i hi).1 h).mono fun e w' h2 => Or.inr ⟨h, h2⟩
  · exact (add_large C i hi hn k k0 k1 (sc i hi).1 (sc i hi).2 (tm i hi).1 (tm i hi).2 (by omega)).mono fun e w' h2 => Or.inl ⟨by omega, h2.1, h2.2⟩
end
theorem least_not_lost {n x : Nat} {S T : Nat → Int} (h : Least T n x) : ¬ Lost n S T x 0 := by
  rintro ⟨k, h1, h2, h3⟩
  have := h.2 k h1 h2
  rw [Int.zero_mul] at h3
  unfold ahd at this
  omega
theorem room_pos {n x : Nat} {S T : Nat → Int} {r : Int} (h : Least T n x) (hr : IsRoom n S T x r) : 1 ≤ r := by
  by_cases c : r = 0
  · subst c; exact absurd (hr.2.2.2 (by omega)) (least_not_lost h)
  · have := hr.1; omega
/-- Moved on by t ticks a thread that would not be lost stays the next one. -/
theorem least_moved {n x : Nat} {S T : Nat → Int} {t : Int} (h : Least T n x) (hl : ¬ Lost n S T x t) : Least (fun j => if j = x then T x + S x * t else T j) n x := by
  refine ⟨h.1, fun j hj hne => ?_⟩
  show ahd (fun j => if j = x then T x + S x * t else T j) x j
  unfold ahd
  dsimp only
  rw [if_pos rfl, if_neg hne]
  by_cases c : T j < T x + S x * t ∨ (T j = T x + S x * t ∧ j < x)
  · exact absurd ⟨j, hj, hne, by rw [Int.mul_comm t]; exact c⟩ hl
  · omega
theorem lost_moved {n x y : Nat} {S T : Nat → Int} {t : Int} (hl : Lost n S T x t) (h : Least (fun j => if j = x then T x + S x * t else T j) n y) : y ≠ x := by
  rintro rfl
  obtain ⟨k, h1, h2, h3⟩ := hl
  have := h.2 k h1 h2
  unfold ahd at this
  dsimp only at this
  rw [if_pos rfl, if_neg h2] at this
  rw [Int.mul_comm t] at h3
  omega
end Go.Proofs.Ytfigepnpegnhkaa
