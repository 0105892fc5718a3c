/- Settle, Direct, Next: the program's and the document's. -/
import Derived.Test.YtmejjejafimhfaaChecked
import Derived.Test.YtmejjejafimhfaaArr
namespace Go.Proofs.Ytmejjejafimhfaa
open Go.RowKit
set_option linter.unusedVariables false
set_option linter.unusedSimpArgs false

abbrev regsV (a x y s d pc b k p : Int) (e : Bool) : Value := .agg #[.int .u16 a, .int .u16 x, .int .u16 y, .int .u16 s, .int .u16 d, .int .u16 pc, .int .u8 b, .int .u8 k, .int .u8 p, .bool e]
abbrev placeV (ad : Int) (bk : Bool) : Value := .agg #[.int .u32 ad, .bool bk]

theorem and255_16 (s : Int) (h0 : 0 ≤ s) (h1 : s ≤ 65535) : bits .and .u16 s 255 = s % 256 := by
  have := u16_and_nat s.toNat 255 (by omega) (by omega)
  rw [Int.toNat_of_nonneg h0, nat_mask8] at this
  rw [show ((255 : Nat) : Int) = 255 from rfl] at this
  rw [this]; omega
theorem or256_16 (s : Int) (h0 : 0 ≤ s) (h1 : s ≤ 255) : bits .or .u16 256 s = 256 + s := by
  have := u16_or_nat 256 s.toNat (by omega) (by omega)
  rw [Int.toNat_of_nonneg h0] at this
  have e : 256 ||| s.toNat = 256 + s.toNat := (Nat.two_pow_add_eq_or_of_lt (i := 8) (b := s.toNat) (by omega) 1).symm
  rw [e] at this
  rw [show ((256 : Nat) : Int) = 256 from rfl] at this
  rw [this]; omega
theorem byte_fact {P : Int → Prop} (h : ∀ n : Fin 256, P (n.val : Int)) (b : Int) (h0 : 0 ≤ b) (h1 : b ≤ 255) : P b := by
  have := h ⟨b.toNat, by omega⟩
  simp only [] at this
  rwa [Int.toNat_of_nonneg h0] at this
theorem and16_8 (p : Int) (h0 : 0 ≤ p) (h1 : p ≤ 255) : bits .and .u8 p 16 = p / 16 % 2 * 16 := byte_fact (P := fun p => bits .and .u8 p 16 = p / 16 % 2 * 16) (by decide +kernel) p h0 h1
/-- The flags with M and X. -/
def orMX (p : Int) : Int := bits .or .u8 p 48
theorem orMX_is (p : Int) (h0 : 0 ≤ p) (h1 : p ≤ 255) : 0 ≤ orMX p ∧ orMX p ≤ 255 ∧ orMX p / 16 % 2 = 1 ∧ orMX (orMX p) = orMX p := byte_fact (P := fun p => 0 ≤ orMX p ∧ orMX p ≤ 255 ∧ orMX p / 16 % 2 = 1 ∧ orMX (orMX p) = orMX p) (by decide +kernel) p h0 h1

/-- The settled parts. -/
def setP (p : Int) (e : Bool) : Int := if e then orMX p else p
def setS (s : Int) (e : Bool) : Int := if e then 256 + s % 256 else s
def setX (x p : Int) (e : Bool) : Int := if setP p e / 16 % 2 = 1 then x % 256 else x
abbrev settled (a x y s d pc b k p : Int) (e : Bool) : Value := regsV a (setX x p e) (setX y p e) (setS s e) d pc b k (setP p e) e

section
variable (a x y s d pc b k p : Int) (e : Bool) (w : World) (x0 : 0 ≤ x) (x1 : x ≤ 65535) (y0 : 0 ≤ y) (y1 : y ≤ 65535) (s0 : 0 ≤ s) (s1 : s ≤ 65535) (p0 : 0 ≤ p) (p1 : p ≤ 255)
include x0 x1 y0 y1 s0 s1 p0 p1

set_option maxHeartbeats 1000000 in
theorem wsettle : Calls Try.prog 19 #[regsV a x y s d pc b k p e] w fun r w' => r = .returned (settled a x y s d pc b k p e) ∧ Below w.heap.size w w' := by
  have e1 := and255_16 s s0 s1
  have e2 := or256_16 (s % 256) (by omega) (by omega)
  have e3 := and255_16 x x0 x1
  have e4 := and255_16 y y0 y1
  obtain ⟨q0, q1, q2, q3⟩ := orMX_is p p0 p1
  cases e
  · have e5 := and16_8 p p0 p1
    clear q0 q1 q2 q3
    by_cases c : p / 16 % 2 = 1
    all_goals
      obtain ⟨tb, ht⟩ : ∃ tb : Bool, tb = decide (p / 16 % 2 = 1) := ⟨_, rfl⟩
      have t : (p / 16 % 2 * 16 != 0) = tb := by rw [ht, Bool.eq_iff_iff]; simp; omega
      have t2 : (p / 16 % 2 == 1) = tb := by rw [ht, Bool.eq_iff_iff]; simp
      rw [show decide (p / 16 % 2 = 1) = _ from (by first | exact decide_eq_true c | exact decide_eq_false c)] at ht
      subst ht
      have C := Lib.hid c
      clear c
      go_enter Try.func19, Try.ntmps19
      go_wp2_with fail
      exact bodyPost_ret (v := settled a x y s d pc b k p false) (by have := C.out; simp [results, Try.results19, go_sem, settled, setX, setS, setP, this]) rfl ⟨rfl, by repeat (first | exact Below.refl _ _ | apply belowD | apply belowA)⟩
  · have e6 : bits .or .u8 p 48 = orMX p := rfl
    obtain ⟨z, hz⟩ : ∃ z, orMX p = z := ⟨_, rfl⟩
    rw [hz] at q0 q1 q2 e6
    have e5 := and16_8 z q0 q1
    rw [q2] at e5
    have t2 : (z / 16 % 2 == 1) = true := by simp [q2]
    have HZ := Lib.hid hz
    have Q2 := Lib.hid q2
    clear hz q2 q3
    go_enter Try.func19, Try.ntmps19
    go_wp2_with fail
    exact bodyPost_ret (v := settled a x y s d pc b k p true) (by have h1 := HZ.out; have h2 := Q2.out; simp [results, Try.results19, go_sem, settled, setX, setS, setP, h1, h2]) rfl ⟨rfl, by repeat (first | exact Below.refl _ _ | apply belowD | apply belowA)⟩
set_option maxHeartbeats 1000000 in
theorem dsettle : Calls Try.prog 10 #[regsV a x y s d pc b k p e] w fun r w' => r = .returned (settled a x y s d pc b k p e) ∧ Below w.heap.size w w' := by
  have e1 := and255_16 s s0 s1
  have e2 := or256_16 (s % 256) (by omega) (by omega)
  have e3 := and255_16 x x0 x1
  have e4 := and255_16 y y0 y1
  obtain ⟨q0, q1, q2, q3⟩ := orMX_is p p0 p1
  cases e
  · have e5 := and16_8 p p0 p1
    clear q0 q1 q2 q3
    by_cases c : p / 16 % 2 = 1
    all_goals
      obtain ⟨tb, ht⟩ : ∃ tb : Bool, tb = decide (p / 16 % 2 = 1) := ⟨_, rfl⟩
      have t : (p / 16 % 2 * 16 != 0) = tb := by rw [ht, Bool.eq_iff_iff]; simp; omega
      have t2 : (p / 16 % 2 == 1) = tb := by rw [ht, Bool.eq_iff_iff]; simp
      rw [show decide (p / 16 % 2 = 1) = _ from (by first | exact decide_eq_true c | exact decide_eq_false c)] at ht
      subst ht
      have C := Lib.hid c
      clear c
      go_enter Try.func10, Try.ntmps10
      go_wp2_with fail
      exact bodyPost_ret (v := settled a x y s d pc b k p false) (by have := C.out; simp [results, Try.results10, go_sem, settled, setX, setS, setP, this]) rfl ⟨rfl, by repeat (first | exact Below.refl _ _ | apply belowD | apply belowA)⟩
  · have e6 : bits .or .u8 p 48 = orMX p := rfl
    obtain ⟨z, hz⟩ : ∃ z, orMX p = z := ⟨_, rfl⟩
    rw [hz] at q0 q1 q2 e6
    have e5 := and16_8 z q0 q1
    rw [q2] at e5
    have t2 : (z / 16 % 2 == 1) = true := by simp [q2]
    have HZ := Lib.hid hz
    have Q2 := Lib.hid q2
    clear hz q2 q3
    go_enter Try.func10, Try.ntmps10
    go_wp2_with fail
    exact bodyPost_ret (v := settled a x y s d pc b k p true) (by have h1 := HZ.out; have h2 := Q2.out; simp [results, Try.results10, go_sem, settled, setX, setS, setP, h1, h2]) rfl ⟨rfl, by repeat (first | exact Below.refl _ _ | apply belowD | apply belowA)⟩

theorem rsettle : Calls Try.prog 9 #[regsV a x y s d pc b k p e] w fun r w' => r = .returned (settled a x y s d pc b k p e) ∧ Below w.heap.size w w' := by
  go_enter Try.func9, Try.ntmps9
  go_wp2_with fail
  refine (wsettle a x y s d pc b k p e _ x0 x1 y0 y1 s0 s1 p0 p1).mono ?_
  rintro r w' ⟨rfl, hb⟩
  obtain ⟨xx, rfl⟩ := more_of_below hb
  clear hb
  go_wp2_with fail
  exact bodyPost_ret (v := settled a x y s d pc b k p e) (by simp [results, Try.results9, go_sem]) rfl ⟨rfl, by repeat (first | exact Below.refl _ _ | apply belowD | apply belowM | apply belowA)⟩
end

/-- The address of a place in the direct page. -/
def directOf (d : Int) (e : Bool) (n : Int) : Int := if e = true ∧ d % 256 = 0 then d + n % 256 else (d + n) % 65536
theorem and255_32 (s : Int) (h0 : 0 ≤ s) (h1 : s ≤ 4294967295) : bits .and .u32 s 255 = s % 256 := by
  have := u32_and_nat s.toNat 255 (by omega) (by omega)
  rw [Int.toNat_of_nonneg h0, nat_mask8] at this
  rw [show ((255 : Nat) : Int) = 255 from rfl] at this
  rw [this]; omega
theorem and65535_32 (s : Int) (h0 : 0 ≤ s) (h1 : s ≤ 4294967295) : bits .and .u32 s 65535 = s % 65536 := by
  have := u32_and_nat s.toNat 65535 (by omega) (by omega)
  rw [Int.toNat_of_nonneg h0, nat_mask16] at this
  rw [show ((65535 : Nat) : Int) = 65535 from rfl] at this
  rw [this]; omega
theorem and24_32 (s : Int) (h0 : 0 ≤ s) (h1 : s ≤ 4294967295) : bits .and .u32 s 16777215 = s % 16777216 := by
  have := u32_and_nat s.toNat 16777215 (by omega) (by omega)
  rw [Int.toNat_of_nonneg h0] at this
  have e : s.toNat &&& 16777215 = s.toNat % 16777216 := Nat.and_two_pow_sub_one_eq_mod s.toNat 24
  rw [e, show ((16777215 : Nat) : Int) = 16777215 from rfl] at this
  rw [this]; omega
/-- A multiple of a power, and what is below it. -/
theorem or_low (i : Nat) (hi : i < 32) (x y : Int) (hx0 : 0 ≤ x) (hx1 : x ≤ 4294967295) (hx : x % 2 ^ i = 0) (hy0 : 0 ≤ y) (hy1 : y < 2 ^ i) : bits .or .u32 x y = x + y := by
  have hp : (2 : Int) ^ i = ((2 ^ i : Nat) : Int) := by simp
  rw [hp] at hx hy1
  have hlt : 2 ^ i < 2 ^ 32 := Nat.pow_lt_pow_right (by omega) hi
  have := u32_or_nat x.toNat y.toNat (by omega) (by omega)
  rw [Int.toNat_of_nonneg hx0, Int.toNat_of_nonneg hy0] at this
  obtain ⟨q, hq⟩ : ∃ q, x.toNat = 2 ^ i * q := by
    have : ((x.toNat % 2 ^ i : Nat) : Int) = 0 := by
      rw [Int.natCast_emod, Int.toNat_of_nonneg hx0]; exact hx
    exact ⟨x.toNat / 2 ^ i, by have := Nat.div_add_mod x.toNat (2 ^ i); omega⟩
  have e : x.toNat ||| y.toNat = x.toNat + y.toNat := by
    rw [hq]
    exact (Nat.two_pow_add_eq_or_of_lt (i := i) (b := y.toNat) (by omega) q).symm
  rw [e] at this
  rw [this]; omega

section
variable (a x y s d pc b k p n : Int) (e : Bool) (w : World) (d0 : 0 ≤ d) (d1 : d ≤ 65535) (n0 : 0 ≤ n) (n1 : n ≤ 4294967295)
include d0 d1 n0 n1
theorem wdirect : Calls Try.prog 20 #[regsV a x y s d pc b k p e, .int .u32 n] w fun r w' => r = .returned (.int .u32 (directOf d e n)) ∧ Below w.heap.size w w' := by
  have e1 := and255_16 d d0 d1
  have e2 := and255_32 n n0 n1
  have e3 : IntKind.u16.wrap (d + IntKind.u16.wrap n) = (d + n) % 65536 := by rw [IntKind.wrap_u16, IntKind.wrap_u16]; omega
  cases e
  · go_enter Try.func20, Try.ntmps20
    go_wp2_with fail
    go_ret
    exact ⟨congrArg (fun z => Ending.returned (.int .u32 z)) (by simp only [directOf, IntKind.wrap_u16, IntKind.wrap_u32]; simp; try omega), by repeat (first | exact Below.refl _ _ | apply belowD | apply belowM | apply belowA)⟩
  · by_cases c : d % 256 = 0
    · have o := or_low 8 (by omega) d (n % 256) d0 (by omega) (by omega) (by omega) (by omega)
      have t : (d % 256 == 0) = true := by simp [c]
      have C := Lib.hid c
      clear c e3
      go_enter Try.func20, Try.ntmps20
      go_wp2_with fail
      go_ret
      exact ⟨congrArg (fun z => Ending.returned (.int .u32 z)) (by have := C.out; simp [directOf, this]), by repeat (first | exact Below.refl _ _ | apply belowD | apply belowM | apply belowA)⟩
    · have t : (d % 256 == 0) = false := by simp [c]
      have C := Lib.hid c
      clear c
      go_enter Try.func20, Try.ntmps20
      go_wp2_with fail
      go_ret
      exact ⟨congrArg (fun z => Ending.returned (.int .u32 z)) (by have := C.out; simp only [directOf, IntKind.wrap_u16, IntKind.wrap_u32]; simp [this]; try omega), by repeat (first | exact Below.refl _ _ | apply belowD | apply belowM | apply belowA)⟩
theorem ddirect : Calls Try.prog 12 #[regsV a x y s d pc b k p e, .int .u32 n] w fun r w' => r = .returned (.int .u32 (directOf d e n)) ∧ Below w.heap.size w w' := by
  cases e
  · go_enter Try.func12, Try.ntmps12
    go_wp2_with fail
    go_ret
    exact ⟨congrArg (fun z => Ending.returned (.int .u32 z)) (by simp only [directOf, IntKind.wrap_u16, IntKind.wrap_u32]; simp; try omega), by repeat (first | exact Below.refl _ _ | apply belowD | apply belowM | apply belowA)⟩
  · by_cases c : d % 256 = 0
    · have t : (d % 256 == 0) = true := by simp [c]
      have C := Lib.hid c
      clear c
      go_enter Try.func12, Try.ntmps12
      go_wp2_with fail
      go_ret
      exact ⟨congrArg (fun z => Ending.returned (.int .u32 z)) (by have := C.out; simp [directOf, this]), by repeat (first | exact Below.refl _ _ | apply belowD | apply belowM | apply belowA)⟩
    · have t : (d % 256 == 0) = false := by simp [c]
      have C := Lib.hid c
      clear c
      go_enter Try.func12, Try.ntmps12
      go_wp2_with fail
      go_ret
      exact ⟨congrArg (fun z => Ending.returned (.int .u32 z)) (by have := C.out; simp only [directOf, IntKind.wrap_u16, IntKind.wrap_u32]; simp [this]; try omega), by repeat (first | exact Below.refl _ _ | apply belowD | apply belowM | apply belowA)⟩
end
end Go.Proofs.Ytmejjejafimhfaa
