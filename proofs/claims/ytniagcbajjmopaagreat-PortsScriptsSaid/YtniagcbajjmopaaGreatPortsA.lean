/- The unit in memory; what writes do (the arithmetic). -/
import Derived.Test.YtniagcbajjmopaaGreatChecked
import Derived.Test.YtniagcbajjmopaaGreatArr
import Derived.Test.YtniagcbajjmopaaGreatKeep
import Derived.Deep.DeepCutAuto
import Derived.Deep.CutBlock
namespace Go.Proofs.YtniagcbajjmopaaGreat
open Go.RowKit
set_option linter.unusedVariables false
set_option linter.unusedSimpArgs false
set_option maxRecDepth 100000

/-- A unit. -/
structure Pt where
  (now busy control factor output dividend quotient product dot line : Int)
  (flagged come irq : Bool)
  (say0 say1 auto0 auto1 shift0 shift1 : Int)
  (held fast over : Bool)
  soon : Int
def Pt.cs (s : Pt) : Array Value := #[.int .i64 s.now, .int .i64 s.busy, .int .u8 s.control, .int .u8 s.factor, .int .u8 s.output, .int .u16 s.dividend, .int .u16 s.quotient, .int .u16 s.product, .int .u16 s.dot, .int .u16 s.line, .bool s.flagged, .bool s.come, .bool s.irq, .int .u16 s.say0, .int .u16 s.say1, .int .u16 s.auto0, .int .u16 s.auto1, .int .u16 s.shift0, .int .u16 s.shift1, .bool s.held, .bool s.fast, .bool s.over, .int .i64 s.soon]
def Pt.zero : Pt := ⟨0, 0, 0, 0, 0, 0, 0, 0, 0, 0, false, false, false, 0, 0, 0, 0, 0, 0, false, false, false, 0⟩
/-- A unit in block g. -/
abbrev Po (w : World) (g : Nat) (s : Pt) : Prop := Blk w g 48 s.cs
/-- What a call leaves. -/
def PW (W : World) (g : Nat) (s : Pt) (v : Value) (e : Ending) (w' : World) : Prop := e = .returned v ∧ Po w' g s ∧ Upd W g w'
/-- What a call that changes nothing says. -/
def Says (W : World) (v : Value) (e : Ending) (w' : World) : Prop := e = .returned v ∧ Below W.heap.size W w'
abbrev poP (g : Nat) : Value := .pointer (some ⟨g, 0, none⟩)

theorem byte_fact {P : Int → Prop} (h : ∀ n : Fin 256, P (n.val : Int)) (b : Int) (h0 : 0 ≤ b) (h1 : b ≤ 255) : P b := by
  have := h ⟨b.toNat, by omega⟩
  simp only [] at this
  rwa [Int.toNat_of_nonneg h0] at this
theorem or16 (x y : Int) (x0 : 0 ≤ x) (x1 : x ≤ 255) (y0 : 0 ≤ y) (y1 : y ≤ 255) : bits .or .u16 x (y * 256) = x + y * 256 := by
  have := u16_or_nat x.toNat (y * 256).toNat (by omega) (by omega)
  rw [Int.toNat_of_nonneg x0, Int.toNat_of_nonneg (by omega)] at this
  have e : x.toNat ||| (y * 256).toNat = 256 * y.toNat + x.toNat := by
    have h := (Nat.two_pow_add_eq_or_of_lt (i := 8) (b := x.toNat) (by omega) y.toNat)
    rw [show (y * 256).toNat = 2 ^ 8 * y.toNat by omega, Nat.or_comm, ← h]
  rw [e] at this
  rw [this]; omega
theorem and255_byte (x : Int) (h0 : 0 ≤ x) (h1 : x ≤ 255) : bits .and .u16 x 255 = x := byte_fact (P := fun x => bits .and .u16 x 255 = x) (by decide +kernel) x h0 h1
theorem or_zero (x : Int) (h0 : 0 ≤ x) (h1 : x ≤ 255) : bits .or .u16 0 x = x := byte_fact (P := fun x => bits .or .u16 0 x = x) (by decide +kernel) x h0 h1
theorem andNot_zero : bits .andNot .u16 0 255 = 0 := by decide +kernel

set_option maxHeartbeats 1000000 in
theorem new_any (w : World) : Calls Tryz.prog 4 #[] w fun e w' => ∃ g, e = .returned (poP g) ∧ w.heap.size ≤ g ∧ Po w' g Pt.zero ∧ Below w.heap.size w w' := by
  go_enter Tryz.func4, Tryz.ntmps4
  go_wp2_with fail
  go_ret
  exact ⟨w.heap.size, rfl, Nat.le_refl _, Blk.new _ _ _, belowA (Below.refl _ _) _⟩

section
variable {w : World} {g : Nat} {s : Pt}
set_option maxHeartbeats 1000000 in
theorem factors_any (A : Po w g s) (v : Int) : Calls Tryz.prog 25 #[poP g, .int .u8 v] w (PW w g { s with factor := v } (.tuple #[])) := by
  have c : w.cell? ⟨g, 3, none⟩ = some (.int .u8 s.factor) := A.cell 3
  have fr := A.frozen 3
  have a2 : Po (w.setCell ⟨g, 3, none⟩ (.int .u8 v)) g { s with factor := v } := A.set_ 3 _
  have A2 := Lib.hid a2
  clear A a2
  go_enter Tryz.func25, Tryz.ntmps25
  go_wp2_with fail
  go_end0
  exact ⟨rfl, A2.out, (Upd.refl _ _).set _ _⟩
set_option maxHeartbeats 1000000 in
theorem multiply_any (A : Po w g s) (v : Int) (f0 : 0 ≤ s.factor) (f1 : s.factor ≤ 255) (v0 : 0 ≤ v) (v1 : v ≤ 255) :
    Calls Tryz.prog 26 #[poP g, .int .u8 v] w (PW w g { s with product := s.factor * v, quotient := v } (.tuple #[])) := by
  have c3 : w.cell? ⟨g, 3, none⟩ = some (.int .u8 s.factor) := A.cell 3
  have c7 : w.cell? ⟨g, 7, none⟩ = some (.int .u16 s.product) := A.cell 7
  have c6 : w.cell? ⟨g, 6, none⟩ = some (.int .u16 s.quotient) := A.cell 6
  have fr7 := A.frozen 7
  have fr6 := A.frozen 6
  have a2 : Po ((w.setCell ⟨g, 7, none⟩ (.int .u16 (s.factor * v))).setCell ⟨g, 6, none⟩ (.int .u16 v)) g { s with product := s.factor * v, quotient := v } := (A.set_ 7 _).set_ 6 _
  obtain ⟨m, hm⟩ : ∃ m, s.factor * v = m := ⟨_, rfl⟩
  have m0 : 0 ≤ m := by rw [← hm]; exact Int.mul_nonneg f0 v0
  have m1 : m ≤ 65025 := by
    rw [← hm]
    exact Int.le_trans (Int.mul_le_mul_of_nonneg_right f1 v0) (Int.mul_le_mul_of_nonneg_left v1 (by omega))
  have ew : IntKind.u16.wrap (s.factor * v) = m := by rw [hm, IntKind.wrap_u16]; omega
  rw [hm] at a2 ⊢
  have A2 := Lib.hid a2
  obtain ⟨fa, hfa⟩ : ∃ fa, s.factor = fa := ⟨_, rfl⟩
  rw [hfa] at c3 f0 f1 hm ew
  clear A a2 hfa
  go_enter Tryz.func26, Tryz.ntmps26
  go_wp2_with fail
  go_end0
  exact ⟨rfl, A2.out, ((Upd.refl _ _).set _ _).set _ _⟩
set_option maxHeartbeats 2000000 in
theorem divide_any (A : Po w g s) (v n : Int) (hn : s.dividend = n) (f0 : 0 ≤ n) (f1 : n ≤ 65535) (v0 : 0 ≤ v) (v1 : v ≤ 255) :
    Calls Tryz.prog 31 #[poP g, .int .u8 v] w (PW w g { s with dividend := n, quotient := if v = 0 then 65535 else n / v, product := if v = 0 then n else n % v } (.tuple #[])) := by
  have c5 : w.cell? ⟨g, 5, none⟩ = some (.int .u16 s.dividend) := A.cell 5
  have c7 : w.cell? ⟨g, 7, none⟩ = some (.int .u16 s.product) := A.cell 7
  have c6 : w.cell? ⟨g, 6, none⟩ = some (.int .u16 s.quotient) := A.cell 6
  have fr7 := A.frozen 7
  have fr6 := A.frozen 6
  have hlt := A.lt
  have HA := Lib.hid A
  clear A
  rw [hn] at c5
  by_cases hv : v = 0
  · subst hv
    simp only [if_true]
    have a2 : Po ((w.setCell ⟨g, 6, none⟩ (.int .u16 65535)).setCell ⟨g, 7, none⟩ (.int .u16 n)) g { s with quotient := 65535, product := n } := (HA.out.set_ 6 _).set_ 7 _
    rw [hn] at a2
    have A2 := Lib.hid a2
    clear a2 hn
    go_enter Tryz.func31, Tryz.ntmps31
    go_wp2_with fail
    go_end0
    exact ⟨rfl, A2.out, ((Upd.refl _ _).set _ _).set _ _⟩
  · simp only [hv, if_false]
    have t : (v == 0) = false := by simpa using hv
    have a2 : Po ((w.setCell ⟨g, 6, none⟩ (.int .u16 (n / v))).setCell ⟨g, 7, none⟩ (.int .u16 (n % v))) g { s with quotient := n / v, product := n % v } := (HA.out.set_ 6 _).set_ 7 _
    rw [hn] at a2
    have A2 := Lib.hid a2
    have vp : 0 < v := by omega
    have e1 : IntKind.u16.wrap (n.tdiv v) = n / v := by
      have q0 : 0 ≤ n / v := Int.ediv_nonneg f0 v0
      have q1 : n / v ≤ n := Int.ediv_le_self v f0
      rw [Int.tdiv_eq_ediv_of_nonneg f0, IntKind.wrap_u16]; omega
    have e2 : n.tmod v = n % v := Int.tmod_eq_emod_of_nonneg f0
    have E1 := Lib.hid e1
    have E2 := Lib.hid e2
    clear e1 e2
    have wv : IntKind.u16.wrap v = v := by rw [IntKind.wrap_u16]; omega
    clear a2 hn
    go_enter Tryz.func31, Tryz.ntmps31
    go_wp2_with fail
    go_region_with (fail)
    all_goals
      go_wp2_with fail
      go_end0
      rw [E1.out, E2.out]
      exact ⟨rfl, A2.out, (((Upd.refl _ _).set _ _).set _ _).drew⟩
set_option maxHeartbeats 1000000 in
theorem low_any (A : Po w g s) (v : Int) (h : s.dividend = 0) (v0 : 0 ≤ v) (v1 : v ≤ 255) :
    Calls Tryz.prog 28 #[.pointer (some ⟨g, 5, none⟩), .int .u8 v] w (PW w g { s with dividend := v } (.tuple #[])) := by
  have c5 : w.cell? ⟨g, 5, none⟩ = some (.int .u16 s.dividend) := A.cell 5
  rw [h] at c5
  have fr5 := A.frozen 5
  have a2 : Po (w.setCell ⟨g, 5, none⟩ (.int .u16 v)) g { s with dividend := v } := A.set_ 5 _
  have A2 := Lib.hid a2
  have e1 := or_zero v v0 v1
  have e2 := andNot_zero
  have wv : IntKind.u16.wrap v = v := by rw [IntKind.wrap_u16]; omega
  clear A a2 h
  go_enter Tryz.func28, Tryz.ntmps28
  go_wp2_with fail
  go_end0
  exact ⟨rfl, A2.out, (Upd.refl _ _).set _ _⟩
set_option maxHeartbeats 1000000 in
theorem high_any (A : Po w g s) (v : Int) (h0 : 0 ≤ s.dividend) (h1 : s.dividend ≤ 255) (v0 : 0 ≤ v) (v1 : v ≤ 255) :
    Calls Tryz.prog 30 #[.pointer (some ⟨g, 5, none⟩), .int .u8 v] w (PW w g { s with dividend := s.dividend + v * 256 } (.tuple #[])) := by
  have c5 : w.cell? ⟨g, 5, none⟩ = some (.int .u16 s.dividend) := A.cell 5
  have fr5 := A.frozen 5
  have a2 : Po (w.setCell ⟨g, 5, none⟩ (.int .u16 (s.dividend + v * 256))) g { s with dividend := s.dividend + v * 256 } := A.set_ 5 _
  have A2 := Lib.hid a2
  obtain ⟨n, hn⟩ : ∃ n, s.dividend = n := ⟨_, rfl⟩
  rw [hn] at c5 h0 h1 A2 ⊢
  have e1 := or16 n v h0 h1 v0 v1
  have e2 := and255_byte n h0 h1
  have wv : IntKind.u16.wrap v = v := by rw [IntKind.wrap_u16]; omega
  have wv2 : IntKind.u16.wrap (v * 256) = v * 256 := by rw [IntKind.wrap_u16]; omega
  clear A a2 hn
  go_enter Tryz.func30, Tryz.ntmps30
  go_wp2_with fail
  go_end0
  exact ⟨rfl, A2.out, (Upd.refl _ _).set _ _⟩
set_option maxHeartbeats 1000000 in
theorem low_c (A : Po w g s) (b : Nat) (v : Int) (h : s.dividend = 0) (v0 : 0 ≤ v) (v1 : v ≤ 255) (cb : w.cell? ⟨b, 0, none⟩ = some (poP g)) :
    Calls Tryz.prog 27 #[.int .u8 v, .pointer (some ⟨b, 0, none⟩)] w (PW w g { s with dividend := v } (.tuple #[])) := by
  have L := Lib.hid (low_any A v h v0 v1)
  clear A h
  go_enter Tryz.func27, Tryz.ntmps27
  go_wp2_with fail
  refine L.out.mono ?_
  rintro e w2 ⟨rfl, a, u⟩
  have A2 := Lib.hid a
  have U2 := Lib.hid u
  clear a u
  go_wp2_with fail
  go_end0
  exact ⟨rfl, A2.out, U2.out⟩
set_option maxHeartbeats 1000000 in
theorem high_c (A : Po w g s) (b : Nat) (v : Int) (h0 : 0 ≤ s.dividend) (h1 : s.dividend ≤ 255) (v0 : 0 ≤ v) (v1 : v ≤ 255) (cb : w.cell? ⟨b, 0, none⟩ = some (poP g)) :
    Calls Tryz.prog 29 #[.int .u8 v, .pointer (some ⟨b, 0, none⟩)] w (PW w g { s with dividend := s.dividend + v * 256 } (.tuple #[])) := by
  have L := Lib.hid (high_any A v h0 h1 v0 v1)
  clear A h0 h1
  go_enter Tryz.func29, Tryz.ntmps29
  go_wp2_with fail
  refine L.out.mono ?_
  rintro e w2 ⟨rfl, a, u⟩
  have A2 := Lib.hid a
  have U2 := Lib.hid u
  clear a u
  go_wp2_with fail
  go_end0
  exact ⟨rfl, A2.out, U2.out⟩
end
end Go.Proofs.YtniagcbajjmopaaGreat
