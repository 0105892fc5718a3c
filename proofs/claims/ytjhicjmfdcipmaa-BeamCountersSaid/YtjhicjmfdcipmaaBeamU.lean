/- beam: what is done with a counter. -/
import Derived.Test.YtjhicjmfdcipmaaBeamT
import Derived.Test.YtjhicjmfdcipmaaTail
namespace Go.Proofs.Ytjhicjmfdcipmaa
open Go.RowKit
set_option linter.unusedVariables false
set_option linter.unusedSimpArgs false
set_option maxRecDepth 100000
def CtW (W : World) (g : Nat) (c : Ct) (v : Value) (e : Ending) (w' : World) : Prop := e = .returned v ∧ Co w' g c ∧ Upd W g w'
set_option maxHeartbeats 1000000 in
theorem newCt_any (w : World) : Calls Try.prog 23 #[] w fun e w' => ∃ g, e = .returned (ctP g) ∧ w.heap.size ≤ g ∧ Co w' g Ct.zero ∧ Below w.heap.size w w' := by
  go_enter Try.func23, Try.ntmps23
  go_wp2_with fail
  go_ret
  exact ⟨w.heap.size, rfl, Nat.le_refl _, Blk.new _ _ _, belowA (Below.refl _ _) _⟩
/-- What is kept at a time. -/
def latchC (t : Int) (c : Ct) : Ct := { c with dn := t % 1364 / 4, ln := t % 357368 / 1364, kept := true }
def isT (t : Int) : Bool := decide (0 ≤ t) && decide (t ≤ 281474976710656)
def latchF (t : Int) (c : Ct) : Ct := if isT t then latchC t c else c
/-! The statement that keeps two numbers. -/
def latC (W : World) (g : Nat) (c : Ct) (w' : World) : Prop := (∃ x, Co w' g { c with dn := x }) ∧ Upd W g w'
def latE (g : Nat) (dn : Int) (a b : World) : Prop := a.cell? ⟨g, 0, none⟩ = some (.int .u16 dn) → b.cell? ⟨g, 0, none⟩ = some (.int .u16 dn)
def latS (g B : Nat) (dn ln : Int) : Nat → Value → List Value → World → Prop
  | 0, v, _, _ => v = ctP g
  | 1, v, _, _ => v = ctP g
  | 2, v, _, _ => v = .pointer (some ⟨B, 3, none⟩)
  | 3, v, _, _ => v = .int .i64 dn
  | 4, v, _, _ => v = .int .u16 dn
  | 5, v, _, _ => v = .pointer (some ⟨B, 1, none⟩)
  | 6, v, _, _ => v = .int .i64 ln
  | 7, v, _, _ => v = .int .u16 ln
  | 8, v, _, _ => v = ctP g
  | 9, v, _, _ => v = .pointer (some ⟨g, 0, none⟩)
  | 10, v, _, _ => v = .pointer (some ⟨g, 0, none⟩)
  | 11, _, _, w => w.cell? ⟨g, 0, none⟩ = some (.int .u16 dn)
  | 12, v, _, _ => v = ctP g
  | 13, v, _, _ => v = .pointer (some ⟨g, 2, none⟩)
  | 14, v, _, _ => v = .pointer (some ⟨g, 2, none⟩)
  | _, _, _, _ => True
theorem latS_mono {g B : Nat} {dn ln : Int} (i : Nat) (v : Value) (q : List Value) (w w' : World) (h : latS g B dn ln i v q w) (k : latE g dn w w') : latS g B dn ln i v q w' := by
  match i, h with
  | 0, h => exact h
  | 1, h => exact h
  | 2, h => exact h
  | 3, h => exact h
  | 4, h => exact h
  | 5, h => exact h
  | 6, h => exact h
  | 7, h => exact h
  | 8, h => exact h
  | 9, h => exact h
  | 10, h => exact h
  | 11, h => exact k h
  | 12, h => exact h
  | 13, h => exact h
  | 14, h => exact h
  | i + 15, _ => exact True.intro
section
variable {w : World} {g : Nat} {c : Ct}
set_option maxHeartbeats 8000000 in
theorem latch_yes (A : Co w g c) (t : Int) (t0 : 0 ≤ t) (t1 : t ≤ 281474976710656) : Calls Try.prog 24 #[ctP g, .int .i64 t] w (CtW w g (latchC t c) (.tuple #[])) := by
  have hlt := A.lt
  obtain ⟨fr, hfr⟩ : ∃ fr, t / 357368 = fr := ⟨_, rfl⟩
  obtain ⟨ln, hln⟩ : ∃ ln, t % 357368 / 1364 = ln := ⟨_, rfl⟩
  obtain ⟨hh, hhh⟩ : ∃ hh, t % 1364 = hh := ⟨_, rfl⟩
  obtain ⟨dn, hdn⟩ : ∃ dn, t % 1364 / 4 = dn := ⟨_, rfl⟩
  have BO : Hid (∀ w, Calls Try.prog 12 #[.int .i64 t] w fun e w' => e = .returned (beamV fr ln hh dn) ∧ w.alloc (beamO fr ln hh dn) = w') := Lib.hid (fun w => by
    have := beamOf_yes t w t0 t1
    rwa [hdn, hhh, hln, hfr] at this)
  have LC : Hid (latchC t c = { c with dn := dn, ln := ln, kept := true }) := Lib.hid (by unfold latchC; rw [hdn, hln])
  have wd : IntKind.u16.wrap dn = dn := by simp [IntKind.wrap, IntKind.bits, IntKind.signed]; omega
  have wl : IntKind.u16.wrap ln = ln := by simp [IntKind.wrap, IntKind.bits, IntKind.signed]; omega
  have AA := Lib.hid A
  clear A hfr hln hhh hdn
  go_enter Try.func24, Try.ntmps24
  go_wp2_with fail
  refine (isTime_yes t w t0 t1).mono ?_
  rintro e w1 ⟨rfl, rfl⟩
  go_wp2_with fail
  refine (BO.out _).mono ?_
  rintro e w1 ⟨rfl, rfl⟩
  go_upto_region 2 with (fail)
  obtain ⟨B, hB⟩ : ∃ B, B = w.heap.size + 1 := ⟨_, rfl⟩
  obtain ⟨W2, hW⟩ : ∃ W2, W2 = (w.alloc (beamO fr ln hh dn)).alloc (.cells #[.int .i64 fr, .int .i64 ln, .int .i64 hh, .int .i64 dn] 23) := ⟨_, rfl⟩
  have cb : Below w.heap.size w W2 := by rw [hW]; exact belowA (belowA (Below.refl _ _) _) _
  have k : Blk W2 B 23 #[.int .i64 fr, .int .i64 ln, .int .i64 hh, .int .i64 dn] := by
    rw [hW, hB]
    have := Blk.new (w.alloc (beamO fr ln hh dn)) 23 #[.int .i64 fr, .int .i64 ln, .int .i64 hh, .int .i64 dn]
    simpa using this
  rw [← hW, ← hB]
  have nB : B ≠ g := by omega
  have K1 : Hid (W2.cell? ⟨B, 1, none⟩ = some (.int .i64 ln)) := Lib.hid (k.cell 1)
  have K3 : Hid (W2.cell? ⟨B, 3, none⟩ = some (.int .i64 dn)) := Lib.hid (k.cell 3)
  have A2 := Lib.hid (AA.out.kept cb)
  have CB := Lib.hid cb
  clear hW hB cb k AA BO
  refine wp_region_tail 15 _ rfl rfl rfl (by kernel_rfl) (by kernel_rfl) (by kernel_rfl) (C := latC W2 g c) (S := latS g B dn ln) (Ev := latE g dn) latS_mono ?_ ?_ ?_
  · exact ⟨⟨c.dn, A2.out⟩, (Upd.refl _ _).drew⟩
  · simp only [List.take_succ_cons, List.take_zero, stepsOf]
    refine ⟨fun us w' hw hd => stepOf_plain rfl ?_, fun us w' hw hd => stepOf_plain rfl ?_, fun us w' hw hd => stepOf_plain rfl ?_, fun us w' hw hd => stepOf_plain rfl ?_, fun us w' hw hd => stepOf_plain rfl ?_, fun us w' hw hd => stepOf_plain rfl ?_, fun us w' hw hd => stepOf_plain rfl ?_, fun us w' hw hd => stepOf_plain rfl ?_, fun us w' hw hd => stepOf_plain rfl ?_, fun us w' hw hd => stepOf_plain rfl ?_, fun us w' hw hd => stepOf_plain rfl ?_, fun us w' hw hd => stepOf_plain rfl ?_, fun us w' hw hd => stepOf_plain rfl ?_, fun us w' hw hd => stepOf_plain rfl ?_, fun us w' hw hd => stepOf_plain rfl ?_, trivial⟩
    all_goals simp only [fill, List.filterMap_cons, List.filterMap_nil]
    · go_simp
      exact ⟨_, rfl, hw, rfl, fun h => h⟩
    · go_simp
      exact ⟨_, rfl, hw, rfl, fun h => h⟩
    · go_simp
      exact ⟨_, rfl, hw, rfl, fun h => h⟩
    · have h : us 16 = .pointer (some ⟨B, 3, none⟩) := hd.1 rfl
      have c := keepU hw.2 K3.out nB
      go_simp
      exact ⟨_, rfl, hw, rfl, fun h => h⟩
    · have h : us 17 = .int .i64 dn := hd.1 rfl
      go_simp
      exact ⟨_, rfl, hw, rfl, fun h => h⟩
    · go_simp
      exact ⟨_, rfl, hw, rfl, fun h => h⟩
    · have h : us 19 = .pointer (some ⟨B, 1, none⟩) := hd.1 rfl
      have c := keepU hw.2 K1.out nB
      go_simp
      exact ⟨_, rfl, hw, rfl, fun h => h⟩
    · have h : us 20 = .int .i64 ln := hd.1 rfl
      go_simp
      exact ⟨_, rfl, hw, rfl, fun h => h⟩
    · have h : us 14 = ctP g := hd.1 rfl
      go_simp
      exact ⟨_, rfl, hw, rfl, fun h => h⟩
    · have h : us 22 = ctP g := hd.1 rfl
      go_simp
      exact ⟨_, rfl, hw, rfl, fun h => h⟩
    · have h : us 23 = .pointer (some ⟨g, 0, none⟩) := hd.1 rfl
      go_simp
      exact ⟨_, rfl, hw, rfl, fun h => h⟩
    · have h1 : us 24 = .pointer (some ⟨g, 0, none⟩) := hd.1 rfl
      have h2 : us 18 = .int .u16 dn := hd.2.1 rfl
      obtain ⟨⟨x, hx⟩, hu⟩ := hw
      have c := hx.cell 0
      have f := hx.frozen 0
      have HX := Lib.hid hx
      have HU := Lib.hid hu
      clear hx hu
      go_simp
      exact ⟨_, rfl, ⟨⟨dn, HX.out.set_ 0 _⟩, HU.out.set _ _⟩, (HX.out.set_ 0 _).cell 0, fun _ => (HX.out.set_ 0 _).cell 0⟩
    · have h : us 15 = ctP g := hd.1 rfl
      go_simp
      exact ⟨_, rfl, hw, rfl, fun h => h⟩
    · have h : us 25 = ctP g := hd.1 rfl
      go_simp
      exact ⟨_, rfl, hw, rfl, fun h => h⟩
    · have h : us 26 = .pointer (some ⟨g, 2, none⟩) := hd.1 rfl
      go_simp
      exact ⟨_, rfl, hw, rfl, fun h => h⟩
  · intro us w' hw ha
    simp only [fill, List.filterMap_cons, List.filterMap_nil]
    have h1 : us 27 = .pointer (some ⟨g, 2, none⟩) := ha.2.2.2.2.2.2.2.2.2.2.2.2.2.2.1
    have h2 : us 21 = .int .u16 ln := ha.2.2.2.2.2.2.2.1
    have h3 : w'.cell? ⟨g, 0, none⟩ = some (.int .u16 dn) := ha.2.2.2.2.2.2.2.2.2.2.2.1
    obtain ⟨⟨x, hx⟩, hu⟩ := hw
    have hxd : x = dn := by have := hx.cell 0; rw [h3] at this; simpa [Ct.cs] using this.symm
    subst hxd
    have c2 := hx.cell 2
    have f2 := hx.frozen 2
    have HX := Lib.hid hx
    have HU := Lib.hid hu
    clear hx hu ha h3
    go_simp
    have HX2 := Lib.hid (HX.out.set_ 2 (.int .u16 ln))
    have HU2 := Lib.hid (HU.out.set 2 (.int .u16 ln))
    have c4 := HX2.out.cell 4
    have f4 := HX2.out.frozen 4
    clear HX HU
    go_wp2_with fail
    go_end0
    refine ⟨rfl, ?_, ((Upd.ofBelow CB.out g).trans HU2.out).set _ _⟩
    rw [LC.out]
    exact HX2.out.set_ 4 _
theorem latch_no (t : Int) (h : t < 0 ∨ 281474976710656 < t) : Calls Try.prog 24 #[ctP g, .int .i64 t] w fun e w' => e = .returned (.tuple #[]) ∧ Below w.heap.size w w' := by
  go_enter Try.func24, Try.ntmps24
  go_wp2_with fail
  refine (isTime_no t w h).mono ?_
  rintro e w1 ⟨rfl, rfl⟩
  go_wp2_with fail
  (first | go_end0 | refine bodyPost_ret (results_none rfl _ _ _) rfl ?_)
  exact ⟨rfl, Below.refl _ _⟩
theorem latch_nil (t : Int) (w : World) : Calls Try.prog 24 #[.pointer none, .int .i64 t] w fun e w' => e = .returned (.tuple #[]) ∧ Below w.heap.size w w' := by
  go_enter Try.func24, Try.ntmps24
  go_wp2_with fail
  (first | go_end0 | refine bodyPost_ret (results_none rfl _ _ _) rfl ?_)
  exact ⟨rfl, Below.refl _ _⟩
theorem read_nil (p t : Int) (w : World) : Calls Try.prog 27 #[.pointer none, .int .u8 p, .int .i64 t] w fun e w' => e = .returned (.tuple #[.int .u8 0, .bool false]) ∧ Below w.heap.size w w' := by
  go_enter Try.func27, Try.ntmps27
  go_wp2_with fail
  go_ret2
  exact ⟨rfl, Below.refl _ _⟩
theorem load_nil (v : Value) (w : World) : Calls Try.prog 26 #[.pointer none, v] w fun e w' => e = .returned (.int .i64 1) ∧ Below w.heap.size w w' := by
  go_enter Try.func26, Try.ntmps26
  go_wp2_with fail
  go_ret
  exact ⟨rfl, Below.refl _ _⟩
end
end Go.Proofs.Ytjhicjmfdcipmaa
