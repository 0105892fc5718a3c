/- The channels: New, place, Write, Read, least, Next. -/
import Derived.Test.YtkeikkkcmackeaaDmaA
namespace Go.Proofs.Ytkeikkkcmackeaa
open Go.RowKit
set_option linter.unusedVariables false
set_option linter.unusedSimpArgs false
set_option maxRecDepth 100000

/-- The byte of a port. -/
def plc (p : Int) : Option Nat :=
  if p < 17152 ∨ 17279 < p then none else if p % 16 = 15 then some ((p / 16 % 8 * 12 + 11).toNat) else if 11 < p % 16 then none else some ((p / 16 % 8 * 12 + p % 16).toNat)
theorem plc_lt {p : Int} {i : Nat} (h : plc p = some i) : i < 96 := by
  unfold plc at h
  split at h
  · cases h
  · split at h
    · cases h; omega
    · split at h
      · cases h
      · cases h; omega
def plcV (g : Nat) (p : Int) : Value := match plc p with | none => .pointer none | some i => .pointer (some ⟨g, i, none⟩)
theorem and15 (m : Int) (h0 : 0 ≤ m) (h1 : m ≤ 65535) : bits .and .u16 m 15 = m % 16 := by
  have := u16_and_nat m.toNat 15 (by omega) (by omega)
  rw [Int.toNat_of_nonneg h0, show (15 : Nat) = 2 ^ 4 - 1 by decide, Nat.and_two_pow_sub_one_eq_mod] at this
  rw [show ((2 ^ 4 - 1 : Nat) : Int) = 15 by decide] at this
  rw [this]; omega
theorem and7w (m : Int) (h0 : 0 ≤ m) (h1 : m ≤ 65535) : bits .and .u16 m 7 = m % 8 := by
  have := u16_and_nat m.toNat 7 (by omega) (by omega)
  rw [Int.toNat_of_nonneg h0, show (7 : Nat) = 2 ^ 3 - 1 by decide, Nat.and_two_pow_sub_one_eq_mod] at this
  rw [show ((2 ^ 3 - 1 : Nat) : Int) = 7 by decide] at this
  rw [this]; omega

section
variable {w : World} {g : Nat} {f : Nat → Int}
set_option maxHeartbeats 1000000 in
theorem new_any (w : World) : Calls Try.prog 9 #[] w fun e w' => ∃ g, e = .returned (.pointer (some ⟨g, 0, none⟩)) ∧ w.heap.size ≤ g ∧ Da w' g (fun _ => 0) ∧ Below w.heap.size w w' := by
  go_enter Try.func9, Try.ntmps9
  go_wp2_with fail
  go_ret
  refine ⟨w.heap.size, rfl, Nat.le_refl _, ⟨Array.replicate 104 (.int .u8 0), ?_, by simp, fun j hj => by simp [hj]⟩, belowA (Below.refl _ _) _⟩
  exact Blk.new w 71 (Array.replicate 104 (.int .u8 0))

set_option maxHeartbeats 1000000 in
theorem place_any (A : Da w g f) (p : Int) (p0 : 0 ≤ p) (p1 : p ≤ 65535) :
    Calls Try.prog 35 #[.pointer (some ⟨g, 0, none⟩), .int .u16 p] w (Says w (plcV g p)) := by
  have e1 := and15 p p0 p1
  have e2 := and7w (p / 16) (by omega) (by omega)
  have PL : ∀ v, plcV g p = v → Hid (plcV g p = v) := fun v h => h
  by_cases c1 : p < 17152
  · have h := PL (.pointer none) (by unfold plcV plc; rw [if_pos (Or.inl c1)])
    rw [h.out]
    clear PL h A
    go_enter Try.func35, Try.ntmps35
    go_wp2_with fail
    go_ret
    exact ⟨rfl, Below.refl _ _⟩
  by_cases c2 : 17279 < p
  · have h := PL (.pointer none) (by unfold plcV plc; rw [if_pos (Or.inr c2)])
    rw [h.out]
    clear PL h A
    go_enter Try.func35, Try.ntmps35
    go_wp2_with fail
    go_ret
    exact ⟨rfl, Below.refl _ _⟩
  by_cases c3 : p % 16 = 15
  · obtain ⟨q, hq⟩ : ∃ q : Nat, (q : Int) = p / 16 % 8 := ⟨(p / 16 % 8).toNat, by omega⟩
    have h := PL (.pointer (some ⟨g, q * 12 + 11, none⟩)) (by unfold plcV plc; rw [if_neg (by omega), if_pos c3]; simp only [Value.pointer.injEq, Option.some.injEq, Addr.mk.injEq, and_true, true_and]; omega)
    rw [h.out]
    rw [c3] at e1
    rw [← hq] at e2
    have hq8 : q < 8 := by omega
    clear PL h A hq
    go_enter Try.func35, Try.ntmps35
    go_wp2_with fail
    go_ret
    exact ⟨by simp, Below.refl _ _⟩
  by_cases c4 : 11 < p % 16
  · have h := PL (.pointer none) (by unfold plcV plc; rw [if_neg (by omega), if_neg c3, if_pos c4])
    rw [h.out]
    obtain ⟨z, hz⟩ : ∃ z, p % 16 = z := ⟨_, rfl⟩
    rw [hz] at e1 c3 c4
    have z0 : 0 ≤ z := by omega
    have z1 : z ≤ 15 := by omega
    clear PL h A hz
    go_enter Try.func35, Try.ntmps35
    go_wp2_with fail
    go_ret
    exact ⟨rfl, Below.refl _ _⟩
  · obtain ⟨q, hq⟩ : ∃ q : Nat, (q : Int) = p / 16 % 8 := ⟨(p / 16 % 8).toNat, by omega⟩
    obtain ⟨z, hz⟩ : ∃ z : Nat, (z : Int) = p % 16 := ⟨(p % 16).toNat, by omega⟩
    have h := PL (.pointer (some ⟨g, q * 12 + z, none⟩)) (by unfold plcV plc; rw [if_neg (by omega), if_neg c3, if_neg c4]; simp only [Value.pointer.injEq, Option.some.injEq, Addr.mk.injEq, and_true, true_and]; omega)
    rw [h.out]
    rw [← hz] at e1 c3 c4
    rw [← hq] at e2
    have hq8 : q < 8 := by omega
    have hz8 : z ≤ 11 := by omega
    clear PL h A hq hz
    go_enter Try.func35, Try.ntmps35
    go_wp2_with fail
    go_ret
    exact ⟨by simp, Below.refl _ _⟩

/-- The channel of a bit. -/
def bitOf (c : Nat) : Int := 2 ^ c
set_option maxHeartbeats 1000000 in
theorem least_any (A : Da w g f) (c : Nat) (hc : c < 8) (o : Int) (ho : 1 ≤ o ∧ o ≤ 255 ∧ Lib.ntz8 o = c) :
    Calls Try.prog 37 #[.pointer (some ⟨g, 0, none⟩), .int .u8 o] w (Says w (.tuple #[chP g (c * 12), .int .u8 (bitOf c)])) := by
  obtain ⟨o0, o1, o2⟩ := ho
  have hb : ((1 : Int) * 2 ^ c) % 256 = bitOf c := by
    have h : ∀ c : Fin 8, ((1 : Int) * 2 ^ c.val) % 256 = bitOf c.val := by decide +kernel
    exact h ⟨c, hc⟩
  have oo : 0 ≤ o := by omega
  have tz : ∀ w, Calls Try.prog 67 #[.int .u8 o] w (Says w (.int .i64 c)) := by
    intro w
    clear A hb
    go_enter Try.func67, Try.ntmps67
    go_wp2_with fail
    go_ret
    exact ⟨rfl, Below.refl _ _⟩
  have TZ := Lib.hid tz
  have oz : (o == 0) = false := by simp; omega
  clear tz A o2
  go_enter Try.func37, Try.ntmps37
  go_wp2_with fail
  refine (TZ.out _).mono ?_
  rintro e w1 ⟨rfl, hb1⟩
  go_wp2_with fail
  go_quiet (fail)
  go_wp2
  go_ret2
  refine ⟨?_, belowN hb1 _⟩
  show Ending.returned (.tuple #[.pointer (some ⟨g, c * 12, none⟩), .int .u8 (2 ^ c % 256)]) = _
  rw [Int.one_mul] at hb
  rw [hb]
set_option maxHeartbeats 1000000 in
theorem least_none (A : Da w g f) : Calls Try.prog 37 #[.pointer (some ⟨g, 0, none⟩), .int .u8 0] w (Says w (.tuple #[.pointer none, .int .u8 0])) := by
  clear A
  go_enter Try.func37, Try.ntmps37
  go_wp2_with fail
  go_ret2
  exact ⟨rfl, Below.refl _ _⟩
end
end Go.Proofs.Ytkeikkkcmackeaa
