/- ports, the document's unit: control. ports, the document's Write. -/
import Derived.Test.YtniagcbajjmopaaGreatPortsRa
namespace Go.Proofs.YtniagcbajjmopaaGreat
open Go.RowKit
set_option linter.unusedVariables false
set_option linter.unusedSimpArgs false
set_option maxRecDepth 100000
section
variable {w : World} {B : Nat} {s : Pt}
set_option maxHeartbeats 8000000 in
theorem dcontrol_any (K : Dp w B s) (F : Fit2 s) (v : Int) (v0 : 0 ≤ v) (v1 : v ≤ 255) :
    Calls Tryz.prog 38 #[dpP B, .int .u8 v] w (DW w B (wrP 16896 v s).2 (.tuple #[])) := by
  have k2 : w.cell? ⟨B, 2, none⟩ = some (.int .u8 s.control) := K.cell 2
  have k10 : w.cell? ⟨B, 10, none⟩ = some (.bool s.flagged) := K.cell 10
  have k11 : w.cell? ⟨B, 11, none⟩ = some (.bool s.come) := K.cell 11
  have k12 : w.cell? ⟨B, 12, none⟩ = some (.bool s.irq) := K.cell 12
  have f2 := K.frozen 2
  have f11 := K.frozen 11
  have f12 := K.frozen 12
  have e0 : decide (s.control / 128 % 2 = 0) = !decide (s.control / 128 % 2 = 1) := by
    by_cases c : s.control / 128 % 2 = 1
    · rw [decide_eq_true c, decide_eq_false (by omega)]; rfl
    · rw [decide_eq_false c, decide_eq_true (by omega)]; rfl
  have e1 : decide (v / 16 % 2 = 1 ∨ v / 32 % 2 = 1) = (decide (v / 16 % 2 = 1) || decide (v / 32 % 2 = 1)) := by rw [Bool.decide_or]
  have B7 := Lib.hid (fun w' => dbit7 s.control F.base.c0 F.base.c1 w')
  have V7 := Lib.hid (fun w' => dbit7 v v0 v1 w')
  have V4 := Lib.hid (fun w' => dbit4 v v0 v1 w')
  have V5 := Lib.hid (fun w' => dbit5 v v0 v1 w')
  obtain ⟨s2, hs2⟩ : ∃ s2, (wrP 16896 v s).2 = s2 := ⟨_, rfl⟩
  rw [hs2]
  obtain ⟨cb, hcb⟩ : ∃ b, decide (s.control / 128 % 2 = 1) = b := ⟨_, rfl⟩
  obtain ⟨vb, hvb⟩ : ∃ b, decide (v / 128 % 2 = 1) = b := ⟨_, rfl⟩
  obtain ⟨q4, hq4⟩ : ∃ b, decide (v / 16 % 2 = 1) = b := ⟨_, rfl⟩
  obtain ⟨q5, hq5⟩ : ∃ b, decide (v / 32 % 2 = 1) = b := ⟨_, rfl⟩
  obtain ⟨fl, hfl⟩ : ∃ b, s.flagged = b := ⟨_, rfl⟩
  have HEV : Hid (∀ w' cm iq, Dp w' B { s with come := cm, control := v, irq := iq } → cm = (s.come || ((vb && !cb) && fl)) → iq = (s.irq && (q4 || q5)) → Dp w' B s2) := Lib.hid (by
    intro w' cm iq k h1 h2
    rw [← hs2]
    have : (wrP 16896 v s).2 = { ({ s with soon := 0 } : Pt) with come := cm, control := v, irq := iq } := by
      show ctlF v { s with soon := 0 } = _
      unfold ctlF
      rw [h1, h2, ← hcb, ← hvb, ← hq4, ← hq5, ← hfl, ← e0, ← e1]
    rw [this]
    exact k)
  rw [hcb] at B7
  rw [hvb] at V7
  rw [hq4] at V4
  rw [hq5] at V5
  have S1 : Hid (Dp w B s) := Lib.hid K
  have A1 : Hid (Dp (w.setCell ⟨B, 2, none⟩ (.int .u8 v)) B { s with control := v }) := Lib.hid (S1.out.set_ 2 _)
  have A2 : Hid (Dp ((w.setCell ⟨B, 11, none⟩ (.bool true)).setCell ⟨B, 2, none⟩ (.int .u8 v)) B { s with control := v, come := true }) := Lib.hid ((S1.out.set_ 11 _).set_ 2 _)
  have A3 : Hid (Dp ((w.setCell ⟨B, 2, none⟩ (.int .u8 v)).setCell ⟨B, 12, none⟩ (.bool false)) B { s with control := v, irq := false }) := Lib.hid ((S1.out.set_ 2 _).set_ 12 _)
  have A4 : Hid (Dp (((w.setCell ⟨B, 11, none⟩ (.bool true)).setCell ⟨B, 2, none⟩ (.int .u8 v)).setCell ⟨B, 12, none⟩ (.bool false)) B { s with control := v, come := true, irq := false }) := Lib.hid (((S1.out.set_ 11 _).set_ 2 _).set_ 12 _)
  obtain ⟨ct, hct⟩ : ∃ b, s.control = b := ⟨_, rfl⟩
  rw [hct] at k2 B7
  rw [hfl] at k10
  clear K F e0 e1 hcb hvb hq4 hq5 hfl hct S1 hs2
  have hc : cb = true ∨ (cb = false ∧ vb = false) ∨ (cb = false ∧ vb = true ∧ fl = false) ∨ (cb = false ∧ vb = true ∧ fl = true) := by cases cb <;> cases vb <;> cases fl <;> simp
  have hq : q4 = true ∨ (q4 = false ∧ q5 = true) ∨ (q4 = false ∧ q5 = false) := by cases q4 <;> cases q5 <;> simp
  rcases hc with rfl | ⟨rfl, rfl⟩ | ⟨rfl, rfl, rfl⟩ | ⟨rfl, rfl, rfl⟩ <;> rcases hq with rfl | ⟨rfl, rfl⟩ | ⟨rfl, rfl⟩
  · go_enter Tryz.func38, Tryz.ntmps38
    go_wp2_with (first
      | (go_at_call 37; with_reducible refine (B7.out _).mono ?_; rintro e w' ⟨rfl, rfl⟩)
      | (go_at_call 37; with_reducible refine (V7.out _).mono ?_; rintro e w' ⟨rfl, rfl⟩)
      | (go_at_call 37; with_reducible refine (V4.out _).mono ?_; rintro e w' ⟨rfl, rfl⟩)
      | (go_at_call 37; with_reducible refine (V5.out _).mono ?_; rintro e w' ⟨rfl, rfl⟩))
    go_end0
    exact ⟨rfl, HEV.out _ s.come s.irq A1.out (by simp) (by simp), ((Upd.refl _ _).set _ _)⟩
  · go_enter Tryz.func38, Tryz.ntmps38
    go_wp2_with (first
      | (go_at_call 37; with_reducible refine (B7.out _).mono ?_; rintro e w' ⟨rfl, rfl⟩)
      | (go_at_call 37; with_reducible refine (V7.out _).mono ?_; rintro e w' ⟨rfl, rfl⟩)
      | (go_at_call 37; with_reducible refine (V4.out _).mono ?_; rintro e w' ⟨rfl, rfl⟩)
      | (go_at_call 37; with_reducible refine (V5.out _).mono ?_; rintro e w' ⟨rfl, rfl⟩))
    go_end0
    exact ⟨rfl, HEV.out _ s.come s.irq A1.out (by simp) (by simp), ((Upd.refl _ _).set _ _)⟩
  · go_enter Tryz.func38, Tryz.ntmps38
    go_wp2_with (first
      | (go_at_call 37; with_reducible refine (B7.out _).mono ?_; rintro e w' ⟨rfl, rfl⟩)
      | (go_at_call 37; with_reducible refine (V7.out _).mono ?_; rintro e w' ⟨rfl, rfl⟩)
      | (go_at_call 37; with_reducible refine (V4.out _).mono ?_; rintro e w' ⟨rfl, rfl⟩)
      | (go_at_call 37; with_reducible refine (V5.out _).mono ?_; rintro e w' ⟨rfl, rfl⟩))
    go_end0
    exact ⟨rfl, HEV.out _ s.come false A3.out (by simp) (by simp), (((Upd.refl _ _).set _ _).set _ _)⟩
  · go_enter Tryz.func38, Tryz.ntmps38
    go_wp2_with (first
      | (go_at_call 37; with_reducible refine (B7.out _).mono ?_; rintro e w' ⟨rfl, rfl⟩)
      | (go_at_call 37; with_reducible refine (V7.out _).mono ?_; rintro e w' ⟨rfl, rfl⟩)
      | (go_at_call 37; with_reducible refine (V4.out _).mono ?_; rintro e w' ⟨rfl, rfl⟩)
      | (go_at_call 37; with_reducible refine (V5.out _).mono ?_; rintro e w' ⟨rfl, rfl⟩))
    go_end0
    exact ⟨rfl, HEV.out _ s.come s.irq A1.out (by simp) (by simp), ((Upd.refl _ _).set _ _)⟩
  · go_enter Tryz.func38, Tryz.ntmps38
    go_wp2_with (first
      | (go_at_call 37; with_reducible refine (B7.out _).mono ?_; rintro e w' ⟨rfl, rfl⟩)
      | (go_at_call 37; with_reducible refine (V7.out _).mono ?_; rintro e w' ⟨rfl, rfl⟩)
      | (go_at_call 37; with_reducible refine (V4.out _).mono ?_; rintro e w' ⟨rfl, rfl⟩)
      | (go_at_call 37; with_reducible refine (V5.out _).mono ?_; rintro e w' ⟨rfl, rfl⟩))
    go_end0
    exact ⟨rfl, HEV.out _ s.come s.irq A1.out (by simp) (by simp), ((Upd.refl _ _).set _ _)⟩
  · go_enter Tryz.func38, Tryz.ntmps38
    go_wp2_with (first
      | (go_at_call 37; with_reducible refine (B7.out _).mono ?_; rintro e w' ⟨rfl, rfl⟩)
      | (go_at_call 37; with_reducible refine (V7.out _).mono ?_; rintro e w' ⟨rfl, rfl⟩)
      | (go_at_call 37; with_reducible refine (V4.out _).mono ?_; rintro e w' ⟨rfl, rfl⟩)
      | (go_at_call 37; with_reducible refine (V5.out _).mono ?_; rintro e w' ⟨rfl, rfl⟩))
    go_end0
    exact ⟨rfl, HEV.out _ s.come false A3.out (by simp) (by simp), (((Upd.refl _ _).set _ _).set _ _)⟩
  · go_enter Tryz.func38, Tryz.ntmps38
    go_wp2_with (first
      | (go_at_call 37; with_reducible refine (B7.out _).mono ?_; rintro e w' ⟨rfl, rfl⟩)
      | (go_at_call 37; with_reducible refine (V7.out _).mono ?_; rintro e w' ⟨rfl, rfl⟩)
      | (go_at_call 37; with_reducible refine (V4.out _).mono ?_; rintro e w' ⟨rfl, rfl⟩)
      | (go_at_call 37; with_reducible refine (V5.out _).mono ?_; rintro e w' ⟨rfl, rfl⟩))
    go_end0
    exact ⟨rfl, HEV.out _ s.come s.irq A1.out (by simp) (by simp), ((Upd.refl _ _).set _ _)⟩
  · go_enter Tryz.func38, Tryz.ntmps38
    go_wp2_with (first
      | (go_at_call 37; with_reducible refine (B7.out _).mono ?_; rintro e w' ⟨rfl, rfl⟩)
      | (go_at_call 37; with_reducible refine (V7.out _).mono ?_; rintro e w' ⟨rfl, rfl⟩)
      | (go_at_call 37; with_reducible refine (V4.out _).mono ?_; rintro e w' ⟨rfl, rfl⟩)
      | (go_at_call 37; with_reducible refine (V5.out _).mono ?_; rintro e w' ⟨rfl, rfl⟩))
    go_end0
    exact ⟨rfl, HEV.out _ s.come s.irq A1.out (by simp) (by simp), ((Upd.refl _ _).set _ _)⟩
  · go_enter Tryz.func38, Tryz.ntmps38
    go_wp2_with (first
      | (go_at_call 37; with_reducible refine (B7.out _).mono ?_; rintro e w' ⟨rfl, rfl⟩)
      | (go_at_call 37; with_reducible refine (V7.out _).mono ?_; rintro e w' ⟨rfl, rfl⟩)
      | (go_at_call 37; with_reducible refine (V4.out _).mono ?_; rintro e w' ⟨rfl, rfl⟩)
      | (go_at_call 37; with_reducible refine (V5.out _).mono ?_; rintro e w' ⟨rfl, rfl⟩))
    go_end0
    exact ⟨rfl, HEV.out _ s.come false A3.out (by simp) (by simp), (((Upd.refl _ _).set _ _).set _ _)⟩
  · go_enter Tryz.func38, Tryz.ntmps38
    go_wp2_with (first
      | (go_at_call 37; with_reducible refine (B7.out _).mono ?_; rintro e w' ⟨rfl, rfl⟩)
      | (go_at_call 37; with_reducible refine (V7.out _).mono ?_; rintro e w' ⟨rfl, rfl⟩)
      | (go_at_call 37; with_reducible refine (V4.out _).mono ?_; rintro e w' ⟨rfl, rfl⟩)
      | (go_at_call 37; with_reducible refine (V5.out _).mono ?_; rintro e w' ⟨rfl, rfl⟩))
    go_end0
    exact ⟨rfl, HEV.out _ true s.irq A2.out (by simp) (by simp), (((Upd.refl _ _).set _ _).set _ _)⟩
  · go_enter Tryz.func38, Tryz.ntmps38
    go_wp2_with (first
      | (go_at_call 37; with_reducible refine (B7.out _).mono ?_; rintro e w' ⟨rfl, rfl⟩)
      | (go_at_call 37; with_reducible refine (V7.out _).mono ?_; rintro e w' ⟨rfl, rfl⟩)
      | (go_at_call 37; with_reducible refine (V4.out _).mono ?_; rintro e w' ⟨rfl, rfl⟩)
      | (go_at_call 37; with_reducible refine (V5.out _).mono ?_; rintro e w' ⟨rfl, rfl⟩))
    go_end0
    exact ⟨rfl, HEV.out _ true s.irq A2.out (by simp) (by simp), (((Upd.refl _ _).set _ _).set _ _)⟩
  · go_enter Tryz.func38, Tryz.ntmps38
    go_wp2_with (first
      | (go_at_call 37; with_reducible refine (B7.out _).mono ?_; rintro e w' ⟨rfl, rfl⟩)
      | (go_at_call 37; with_reducible refine (V7.out _).mono ?_; rintro e w' ⟨rfl, rfl⟩)
      | (go_at_call 37; with_reducible refine (V4.out _).mono ?_; rintro e w' ⟨rfl, rfl⟩)
      | (go_at_call 37; with_reducible refine (V5.out _).mono ?_; rintro e w' ⟨rfl, rfl⟩))
    go_end0
    exact ⟨rfl, HEV.out _ true false A4.out (by simp) (by simp), ((((Upd.refl _ _).set _ _).set _ _).set _ _)⟩
end
end Go.Proofs.YtniagcbajjmopaaGreat

namespace Go.Proofs.YtniagcbajjmopaaGreat
open Go.RowKit
set_option linter.unusedVariables false
set_option linter.unusedSimpArgs false
set_option maxRecDepth 100000
section
variable {w : World} {B : Nat} {s : Pt}
theorem Dp.upd {w' : World} (u : Upd w B w') {i : Nat} {v : Value} : Upd w B (w'.setCell ⟨B, i, none⟩ v) := u.set i v
set_option maxHeartbeats 2000000 in
theorem dw_output (K : Dp w B s) (F : Fit2 s) (v : Int) (v0 : 0 ≤ v) (v1 : v ≤ 255) :
    Calls Tryz.prog 6 #[dpP B, .int .u16 16897, .int .u8 v] w (DW w B (wrP 16897 v s).2 (.bool true)) := by
  have c := K.cell 4
  have fr := K.frozen 4
  have k2 : Hid (Dp (w.setCell ⟨B, 4, none⟩ (.int .u8 v)) B { s with output := v }) := Lib.hid (K.set_ 4 _)
  obtain ⟨y, hy⟩ : ∃ y, s.output = y := ⟨_, rfl⟩
  have c' : w.cell? ⟨B, 4, none⟩ = some (.int .u8 s.output) := c
  rw [hy] at c'
  clear c K hy F
  go_enter Tryz.func6, Tryz.ntmps6
  go_wp2_with fail
  go_ret
  exact ⟨rfl, k2.out, (Upd.refl _ _).set _ _⟩
set_option maxHeartbeats 2000000 in
theorem dw_factor (K : Dp w B s) (F : Fit2 s) (v : Int) (v0 : 0 ≤ v) (v1 : v ≤ 255) :
    Calls Tryz.prog 6 #[dpP B, .int .u16 16898, .int .u8 v] w (DW w B (wrP 16898 v s).2 (.bool true)) := by
  have c := K.cell 3
  have fr := K.frozen 3
  have k2 : Hid (Dp (w.setCell ⟨B, 3, none⟩ (.int .u8 v)) B { s with factor := v }) := Lib.hid (K.set_ 3 _)
  obtain ⟨y, hy⟩ : ∃ y, s.factor = y := ⟨_, rfl⟩
  have c' : w.cell? ⟨B, 3, none⟩ = some (.int .u8 s.factor) := c
  rw [hy] at c'
  clear c K hy F
  go_enter Tryz.func6, Tryz.ntmps6
  go_wp2_with fail
  go_ret
  exact ⟨rfl, k2.out, (Upd.refl _ _).set _ _⟩
set_option maxHeartbeats 2000000 in
theorem dw_multiply (K : Dp w B s) (F : Fit2 s) (v : Int) (v0 : 0 ≤ v) (v1 : v ≤ 255) :
    Calls Tryz.prog 6 #[dpP B, .int .u16 16899, .int .u8 v] w (DW w B (wrP 16899 v s).2 (.bool true)) := by
  have c3 : w.cell? ⟨B, 3, none⟩ = some (.int .u8 s.factor) := K.cell 3
  have c7 : w.cell? ⟨B, 7, none⟩ = some (.int .u16 s.product) := K.cell 7
  have c6 : w.cell? ⟨B, 6, none⟩ = some (.int .u16 s.quotient) := K.cell 6
  have f6 := K.frozen 6
  have f7 := K.frozen 7
  have k2 : Hid (Dp ((w.setCell ⟨B, 7, none⟩ (.int .u16 (s.factor * v))).setCell ⟨B, 6, none⟩ (.int .u16 v)) B { s with product := s.factor * v, quotient := v }) := Lib.hid ((K.set_ 7 _).set_ 6 _)
  have m0 : 0 ≤ s.factor * v := Int.mul_nonneg F.f0 v0
  have m1 : s.factor * v ≤ 65025 := Int.le_trans (Int.mul_le_mul_of_nonneg_right F.f1 v0) (Int.mul_le_mul_of_nonneg_left v1 (by omega))
  have g0 := F.f0
  have g1 := F.f1
  obtain ⟨f, hf⟩ : ∃ y, s.factor = y := ⟨_, rfl⟩
  rw [hf] at c3 m0 m1 g0 g1
  have wf : IntKind.u16.wrap f = f := by rw [IntKind.wrap_u16]; omega
  have wv : IntKind.u16.wrap v = v := by rw [IntKind.wrap_u16]; omega
  have wm : IntKind.u16.wrap (f * v) = f * v := by rw [IntKind.wrap_u16]; omega
  rw [hf] at k2
  have HF := Lib.hid hf
  clear K F hf m0 m1 g0 g1
  go_enter Tryz.func6, Tryz.ntmps6
  go_wp2_with fail
  go_ret
  exact ⟨rfl, by show Dp _ B { s with product := s.factor * v, quotient := v }; rw [HF.out]; exact k2.out, ((Upd.refl _ _).set _ _).set _ _⟩
set_option maxHeartbeats 2000000 in
theorem dw_div_lo (K : Dp w B s) (F : Fit2 s) (v : Int) (v0 : 0 ≤ v) (v1 : v ≤ 255) :
    Calls Tryz.prog 6 #[dpP B, .int .u16 16900, .int .u8 v] w (DW w B (wrP 16900 v s).2 (.bool true)) := by
  have c : w.cell? ⟨B, 5, none⟩ = some (.int .u16 s.dividend) := K.cell 5
  have fr := K.frozen 5
  have k2 : Hid (∀ x, Dp (w.setCell ⟨B, 5, none⟩ (.int .u16 x)) B { s with dividend := x }) := Lib.hid (fun x => K.set_ 5 _)
  have CA := Lib.hid (dlow_any s.dividend v w F.w0 F.w1 (by omega) (by omega))
  have KE : Hid ((wrP 16900 v s).2 = { s with soon := 0, dividend := s.dividend / 256 * 256 + v }) := Lib.hid rfl
  obtain ⟨r, hr⟩ : ∃ r, s.dividend / 256 * 256 + v = r := ⟨_, rfl⟩
  rw [hr] at CA KE
  obtain ⟨y, hy⟩ : ∃ y, s.dividend = y := ⟨_, rfl⟩
  rw [hy] at c CA
  clear K F hr hy
  rw [KE.out]
  go_enter Tryz.func6, Tryz.ntmps6
  go_wp2_with fail
  skip
  refine CA.out.mono ?_
  rintro e w1 ⟨rfl, rfl⟩
  go_wp2_with fail
  go_ret
  exact ⟨rfl, k2.out _, (Upd.refl _ _).set _ _⟩
set_option maxHeartbeats 2000000 in
theorem dw_div_hi (K : Dp w B s) (F : Fit2 s) (v : Int) (v0 : 0 ≤ v) (v1 : v ≤ 255) :
    Calls Tryz.prog 6 #[dpP B, .int .u16 16901, .int .u8 v] w (DW w B (wrP 16901 v s).2 (.bool true)) := by
  have c : w.cell? ⟨B, 5, none⟩ = some (.int .u16 s.dividend) := K.cell 5
  have fr := K.frozen 5
  have k2 : Hid (∀ x, Dp (w.setCell ⟨B, 5, none⟩ (.int .u16 x)) B { s with dividend := x }) := Lib.hid (fun x => K.set_ 5 _)
  have CA := Lib.hid (dhigh_any s.dividend v w F.w0 F.w1 (by omega) (by omega))
  have KE : Hid ((wrP 16901 v s).2 = { s with soon := 0, dividend := s.dividend % 256 + v * 256 }) := Lib.hid rfl
  obtain ⟨r, hr⟩ : ∃ r, s.dividend % 256 + v * 256 = r := ⟨_, rfl⟩
  rw [hr] at CA KE
  obtain ⟨y, hy⟩ : ∃ y, s.dividend = y := ⟨_, rfl⟩
  rw [hy] at c CA
  clear K F hr hy
  rw [KE.out]
  go_enter Tryz.func6, Tryz.ntmps6
  go_wp2_with fail
  skip
  refine CA.out.mono ?_
  rintro e w1 ⟨rfl, rfl⟩
  go_wp2_with fail
  go_ret
  exact ⟨rfl, k2.out _, (Upd.refl _ _).set _ _⟩
set_option maxHeartbeats 2000000 in
theorem dw_dot_lo (K : Dp w B s) (F : Fit2 s) (v : Int) (v0 : 0 ≤ v) (v1 : v ≤ 255) :
    Calls Tryz.prog 6 #[dpP B, .int .u16 16903, .int .u8 v] w (DW w B (wrP 16903 v s).2 (.bool true)) := by
  have c : w.cell? ⟨B, 8, none⟩ = some (.int .u16 s.dot) := K.cell 8
  have fr := K.frozen 8
  have k2 : Hid (∀ x, Dp (w.setCell ⟨B, 8, none⟩ (.int .u16 x)) B { s with dot := x }) := Lib.hid (fun x => K.set_ 8 _)
  have CA := Lib.hid (dlow_any s.dot v w F.base.d0 F.base.d1 (by omega) (by omega))
  have KE : Hid ((wrP 16903 v s).2 = { s with soon := 0, dot := s.dot / 256 * 256 + v }) := Lib.hid rfl
  obtain ⟨r, hr⟩ : ∃ r, s.dot / 256 * 256 + v = r := ⟨_, rfl⟩
  rw [hr] at CA KE
  obtain ⟨y, hy⟩ : ∃ y, s.dot = y := ⟨_, rfl⟩
  rw [hy] at c CA
  clear K F hr hy
  rw [KE.out]
  go_enter Tryz.func6, Tryz.ntmps6
  go_wp2_with fail
  skip
  refine CA.out.mono ?_
  rintro e w1 ⟨rfl, rfl⟩
  go_wp2_with fail
  go_ret
  exact ⟨rfl, k2.out _, (Upd.refl _ _).set _ _⟩
set_option maxHeartbeats 2000000 in
theorem dw_dot_hi (K : Dp w B s) (F : Fit2 s) (v : Int) (v0 : 0 ≤ v) (v1 : v ≤ 255) :
    Calls Tryz.prog 6 #[dpP B, .int .u16 16904, .int .u8 v] w (DW w B (wrP 16904 v s).2 (.bool true)) := by
  have c : w.cell? ⟨B, 8, none⟩ = some (.int .u16 s.dot) := K.cell 8
  have fr := K.frozen 8
  have k2 : Hid (∀ x, Dp (w.setCell ⟨B, 8, none⟩ (.int .u16 x)) B { s with dot := x }) := Lib.hid (fun x => K.set_ 8 _)
  have CA := Lib.hid (dhigh_any s.dot (v % 2) w F.base.d0 F.base.d1 (by omega) (by omega))
  have KE : Hid ((wrP 16904 v s).2 = { s with soon := 0, dot := s.dot % 256 + (v % 2) * 256 }) := Lib.hid rfl
  obtain ⟨r, hr⟩ : ∃ r, s.dot % 256 + (v % 2) * 256 = r := ⟨_, rfl⟩
  rw [hr] at CA KE
  obtain ⟨y, hy⟩ : ∃ y, s.dot = y := ⟨_, rfl⟩
  rw [hy] at c CA
  have em : v.tmod 2 = v % 2 := Int.tmod_eq_emod_of_nonneg v0
  clear K F hr hy
  rw [KE.out]
  go_enter Tryz.func6, Tryz.ntmps6
  go_wp2_with fail
  try rw [em]
  refine CA.out.mono ?_
  rintro e w1 ⟨rfl, rfl⟩
  go_wp2_with fail
  go_ret
  exact ⟨rfl, k2.out _, (Upd.refl _ _).set _ _⟩
set_option maxHeartbeats 2000000 in
theorem dw_line_lo (K : Dp w B s) (F : Fit2 s) (v : Int) (v0 : 0 ≤ v) (v1 : v ≤ 255) :
    Calls Tryz.prog 6 #[dpP B, .int .u16 16905, .int .u8 v] w (DW w B (wrP 16905 v s).2 (.bool true)) := by
  have c : w.cell? ⟨B, 9, none⟩ = some (.int .u16 s.line) := K.cell 9
  have fr := K.frozen 9
  have k2 : Hid (∀ x, Dp (w.setCell ⟨B, 9, none⟩ (.int .u16 x)) B { s with line := x }) := Lib.hid (fun x => K.set_ 9 _)
  have CA := Lib.hid (dlow_any s.line v w F.base.l0 F.base.l1 (by omega) (by omega))
  have KE : Hid ((wrP 16905 v s).2 = { s with soon := 0, line := s.line / 256 * 256 + v }) := Lib.hid rfl
  obtain ⟨r, hr⟩ : ∃ r, s.line / 256 * 256 + v = r := ⟨_, rfl⟩
  rw [hr] at CA KE
  obtain ⟨y, hy⟩ : ∃ y, s.line = y := ⟨_, rfl⟩
  rw [hy] at c CA
  clear K F hr hy
  rw [KE.out]
  go_enter Tryz.func6, Tryz.ntmps6
  go_wp2_with fail
  skip
  refine CA.out.mono ?_
  rintro e w1 ⟨rfl, rfl⟩
  go_wp2_with fail
  go_ret
  exact ⟨rfl, k2.out _, (Upd.refl _ _).set _ _⟩
set_option maxHeartbeats 2000000 in
theorem dw_line_hi (K : Dp w B s) (F : Fit2 s) (v : Int) (v0 : 0 ≤ v) (v1 : v ≤ 255) :
    Calls Tryz.prog 6 #[dpP B, .int .u16 16906, .int .u8 v] w (DW w B (wrP 16906 v s).2 (.bool true)) := by
  have c : w.cell? ⟨B, 9, none⟩ = some (.int .u16 s.line) := K.cell 9
  have fr := K.frozen 9
  have k2 : Hid (∀ x, Dp (w.setCell ⟨B, 9, none⟩ (.int .u16 x)) B { s with line := x }) := Lib.hid (fun x => K.set_ 9 _)
  have CA := Lib.hid (dhigh_any s.line (v % 2) w F.base.l0 F.base.l1 (by omega) (by omega))
  have KE : Hid ((wrP 16906 v s).2 = { s with soon := 0, line := s.line % 256 + (v % 2) * 256 }) := Lib.hid rfl
  obtain ⟨r, hr⟩ : ∃ r, s.line % 256 + (v % 2) * 256 = r := ⟨_, rfl⟩
  rw [hr] at CA KE
  obtain ⟨y, hy⟩ : ∃ y, s.line = y := ⟨_, rfl⟩
  rw [hy] at c CA
  have em : v.tmod 2 = v % 2 := Int.tmod_eq_emod_of_nonneg v0
  clear K F hr hy
  rw [KE.out]
  go_enter Tryz.func6, Tryz.ntmps6
  go_wp2_with fail
  try rw [em]
  refine CA.out.mono ?_
  rintro e w1 ⟨rfl, rfl⟩
  go_wp2_with fail
  go_ret
  exact ⟨rfl, k2.out _, (Upd.refl _ _).set _ _⟩
set_option maxHeartbeats 2000000 in
theorem dw_divide (K : Dp w B s) (F : Fit2 s) (v : Int) (v0 : 0 ≤ v) (v1 : v ≤ 255) :
    Calls Tryz.prog 6 #[dpP B, .int .u16 16902, .int .u8 v] w (DW w B (wrP 16902 v s).2 (.bool true)) := by
  have CA := Lib.hid (ddivide_any K F v v0 v1)
  clear K F
  go_enter Tryz.func6, Tryz.ntmps6
  go_wp2_with fail
  refine CA.out.mono ?_
  rintro e w1 ⟨rfl, k, u⟩
  have K1 := Lib.hid k
  have U1 := Lib.hid u
  clear k u
  go_wp2_with fail
  go_ret
  exact ⟨rfl, K1.out, U1.out⟩
set_option maxHeartbeats 2000000 in
theorem dw_control (K : Dp w B s) (F : Fit2 s) (v : Int) (v0 : 0 ≤ v) (v1 : v ≤ 255) :
    Calls Tryz.prog 6 #[dpP B, .int .u16 16896, .int .u8 v] w (DW w B (wrP 16896 v s).2 (.bool true)) := by
  have CA := Lib.hid (dcontrol_any K F v v0 v1)
  clear K F
  go_enter Tryz.func6, Tryz.ntmps6
  go_wp2_with fail
  refine CA.out.mono ?_
  rintro e w1 ⟨rfl, k, u⟩
  have K1 := Lib.hid k
  have U1 := Lib.hid u
  clear k u
  go_wp2_with fail
  go_ret
  exact ⟨rfl, K1.out, U1.out⟩
set_option maxHeartbeats 2000000 in
theorem dw_fast (K : Dp w B s) (F : Fit2 s) (v : Int) (v0 : 0 ≤ v) (v1 : v ≤ 255) :
    Calls Tryz.prog 6 #[dpP B, .int .u16 16909, .int .u8 v] w (DW w B (wrP 16909 v s).2 (.bool true)) := by
  have BI := Lib.hid (dbit_any v 0 v0 v1 (by omega) w)
  have e0 : v / 2 ^ 0 % 2 = v % 2 := by simp
  rw [e0] at BI
  have c : w.cell? ⟨B, 20, none⟩ = some (.bool s.fast) := K.cell 20
  have fr := K.frozen 20
  have k2 : Hid (∀ w', Below w.heap.size w w' → Dp (w'.setCell ⟨B, 20, none⟩ (.bool (decide (v % 2 = 1)))) B { s with fast := decide (v % 2 = 1) }) := Lib.hid (fun w' hb => (K.kept hb).set_ 20 _)
  have HC : Hid (∀ w', Below w.heap.size w w' → w'.cell? ⟨B, 20, none⟩ = some (.bool s.fast) ∧ w'.frozen? ⟨B, 20, none⟩ = false) := Lib.hid (fun w' hb => ⟨(K.kept hb).cell 20, (K.kept hb).frozen 20⟩)
  have KE : Hid ((wrP 16909 v s).2 = { s with soon := 0, fast := decide (v % 2 = 1) }) := Lib.hid rfl
  obtain ⟨r, hr⟩ : ∃ r, decide (v % 2 = 1) = r := ⟨_, rfl⟩
  rw [hr] at BI KE k2
  clear K F hr e0 c fr
  rw [KE.out]
  go_enter Tryz.func6, Tryz.ntmps6
  go_wp2_with fail
  refine BI.out.mono ?_
  rintro e w1 ⟨rfl, b1⟩
  obtain ⟨c, fr⟩ := HC.out w1 b1
  have K2 := Lib.hid (k2.out w1 b1)
  have U1 := Lib.hid (Upd.ofBelow b1 B)
  clear b1
  go_wp2_with fail
  go_ret
  exact ⟨rfl, K2.out, U1.out.set _ _⟩
set_option maxHeartbeats 2000000 in
theorem dw_hold (K : Dp w B s) (F : Fit2 s) (v : Int) (v0 : 0 ≤ v) (v1 : v ≤ 255) :
    Calls Tryz.prog 6 #[dpP B, .int .u16 16406, .int .u8 v] w (DW w B (wrP 16406 v s).2 (.bool true)) := by
  have BI := Lib.hid (dbit_any v 0 v0 v1 (by omega) w)
  have e0 : v / 2 ^ 0 % 2 = v % 2 := by simp
  rw [e0] at BI
  have KH := Lib.hid K
  have KE : Hid ((wrP 16406 v s).2 = holdF v { s with soon := 0 }) := Lib.hid rfl
  rw [KE.out]
  unfold holdF
  clear K F e0 KE
  by_cases hv : v % 2 = 1
  · rw [if_pos hv]
    rw [decide_eq_true hv] at BI
    clear hv
    go_enter Tryz.func6, Tryz.ntmps6
    go_wp2_with fail
    refine BI.out.mono ?_
    rintro e w1 ⟨rfl, b1⟩
    have K1 := Lib.hid (KH.out.kept b1)
    have U1 := Lib.hid ((Upd.ofBelow b1 B).set 19 (.bool true))
    have d19 : w1.cell? ⟨B, 19, none⟩ = some (.bool s.held) := K1.out.cell 19
    have f19 := K1.out.frozen 19
    have a1 : Dp (w1.setCell ⟨B, 19, none⟩ (.bool true)) B { s with held := true } := K1.out.set_ 19 (.bool true)
    clear b1 BI KH
    go_upto_region 5 with (fail)
    obtain ⟨W1, hW⟩ : ∃ W1, W1 = w1.setCell ⟨B, 19, none⟩ (.bool true) := ⟨_, rfl⟩
    rw [← hW] at a1 U1
    try rw [← hW]
    have e19 : W1.cell? ⟨B, 19, none⟩ = some (.bool true) := a1.cell 19
    have e13 : W1.cell? ⟨B, 13, none⟩ = some (.int .u16 s.say0) := a1.cell 13
    have e14 : W1.cell? ⟨B, 14, none⟩ = some (.int .u16 s.say1) := a1.cell 14
    have e17 : W1.cell? ⟨B, 17, none⟩ = some (.int .u16 s.shift0) := a1.cell 17
    have e18 : W1.cell? ⟨B, 18, none⟩ = some (.int .u16 s.shift1) := a1.cell 18
    have g17 := a1.frozen 17
    have g18 := a1.frozen 18
    have A1 := Lib.hid a1
    clear a1 hW d19 f19 K1
    go_wp2_with fail
    try go_region_with (fail)
    all_goals
      try go_wp2_with fail
      go_ret
      first
        | exact ⟨rfl, (A1.out.set_ 17 (.int .u16 s.say0)).set_ 18 (.int .u16 s.say1), ((U1.out.set 17 (.int .u16 s.say0)).set 18 (.int .u16 s.say1)).drew⟩
        | exact ⟨rfl, (A1.out.set_ 17 (.int .u16 s.say0)).set_ 18 (.int .u16 s.say1), ((U1.out.set 17 (.int .u16 s.say0)).set 18 (.int .u16 s.say1))⟩
  · rw [if_neg hv]
    rw [decide_eq_false hv] at BI
    clear hv
    go_enter Tryz.func6, Tryz.ntmps6
    go_wp2_with fail
    refine BI.out.mono ?_
    rintro e w1 ⟨rfl, b1⟩
    have K1 := Lib.hid (KH.out.kept b1)
    have U1 := Lib.hid ((Upd.ofBelow b1 B).set 19 (.bool false))
    have d19 : w1.cell? ⟨B, 19, none⟩ = some (.bool s.held) := K1.out.cell 19
    have f19 := K1.out.frozen 19
    have a1 : Hid (Dp (w1.setCell ⟨B, 19, none⟩ (.bool false)) B { s with held := false }) := Lib.hid (K1.out.set_ 19 (.bool false))
    clear b1 BI KH K1
    go_wp2_with fail
    go_ret
    exact ⟨rfl, a1.out, U1.out⟩
set_option maxHeartbeats 2000000 in
theorem dw_none (K : Dp w B s) (p v : Int) (hp : p ≠ 16406 ∧ p ≠ 16896 ∧ p ≠ 16897 ∧ p ≠ 16898 ∧ p ≠ 16899 ∧ p ≠ 16900 ∧ p ≠ 16901 ∧ p ≠ 16902 ∧ p ≠ 16903 ∧ p ≠ 16904 ∧ p ≠ 16905 ∧ p ≠ 16906 ∧ p ≠ 16909) : Calls Tryz.prog 6 #[dpP B, .int .u16 p, .int .u8 v] w (Says w (.bool false)) := by
  obtain ⟨h0, h1, h2, h3, h4, h5, h6, h7, h8, h9, h10, h11, h12⟩ := hp
  have t0 : (p == 16406) = false := by simpa using h0
  have t1 : (p == 16896) = false := by simpa using h1
  have t2 : (p == 16897) = false := by simpa using h2
  have t3 : (p == 16898) = false := by simpa using h3
  have t4 : (p == 16899) = false := by simpa using h4
  have t5 : (p == 16900) = false := by simpa using h5
  have t6 : (p == 16901) = false := by simpa using h6
  have t7 : (p == 16902) = false := by simpa using h7
  have t8 : (p == 16903) = false := by simpa using h8
  have t9 : (p == 16904) = false := by simpa using h9
  have t10 : (p == 16905) = false := by simpa using h10
  have t11 : (p == 16906) = false := by simpa using h11
  have t12 : (p == 16909) = false := by simpa using h12
  clear K h0 h1 h2 h3 h4 h5 h6 h7 h8 h9 h10 h11 h12
  go_enter Tryz.func6, Tryz.ntmps6
  go_wp2_with fail
  go_ret
  exact ⟨rfl, Below.refl _ _⟩
theorem dwrite_any (K : Dp w B s) (F : Fit2 s) (p v : Int) (v0 : 0 ≤ v) (v1 : v ≤ 255) :
    Calls Tryz.prog 6 #[dpP B, .int .u16 p, .int .u8 v] w (DW w B (wrP p v s).2 (.bool (wrP p v s).1)) := by
  by_cases h0 : p = 16406
  · subst h0
    exact dw_hold K F v v0 v1
  by_cases h1 : p = 16896
  · subst h1
    exact dw_control K F v v0 v1
  by_cases h2 : p = 16897
  · subst h2
    exact dw_output K F v v0 v1
  by_cases h3 : p = 16898
  · subst h3
    exact dw_factor K F v v0 v1
  by_cases h4 : p = 16899
  · subst h4
    exact dw_multiply K F v v0 v1
  by_cases h5 : p = 16900
  · subst h5
    exact dw_div_lo K F v v0 v1
  by_cases h6 : p = 16901
  · subst h6
    exact dw_div_hi K F v v0 v1
  by_cases h7 : p = 16902
  · subst h7
    exact dw_divide K F v v0 v1
  by_cases h8 : p = 16903
  · subst h8
    exact dw_dot_lo K F v v0 v1
  by_cases h9 : p = 16904
  · subst h9
    exact dw_dot_hi K F v v0 v1
  by_cases h10 : p = 16905
  · subst h10
    exact dw_line_lo K F v v0 v1
  by_cases h11 : p = 16906
  · subst h11
    exact dw_line_hi K F v v0 v1
  by_cases h12 : p = 16909
  · subst h12
    exact dw_fast K F v v0 v1
  have e : wrP p v s = (false, s) := by
    unfold wrP
    rw [if_neg h0, if_neg h1, if_neg h2, if_neg h3, if_neg h4, if_neg h5, if_neg h6, if_neg h7, if_neg h8, if_neg h9, if_neg h10, if_neg h11, if_neg h12]
  rw [e]
  exact (dw_none K p v ⟨h0, h1, h2, h3, h4, h5, h6, h7, h8, h9, h10, h11, h12⟩).mono fun e' w' ⟨h1, h2⟩ => ⟨h1, K.kept h2, Upd.ofBelow h2 B⟩
end
end Go.Proofs.YtniagcbajjmopaaGreat
