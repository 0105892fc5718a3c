/- What the closures of writes do: at every state. -/
import Derived.Test.YtniagcbajjmopaaGreatPortsM
namespace Go.Proofs.YtniagcbajjmopaaGreat
open Go.RowKit
set_option linter.unusedVariables false
set_option linter.unusedSimpArgs false
set_option maxRecDepth 100000
theorem bits_or_comm16 (x y : Int) (x0 : 0 ≤ x) (x1 : x ≤ 65535) (y0 : 0 ≤ y) (y1 : y ≤ 65535) : bits .or .u16 x y = bits .or .u16 y x := by
  have a := u16_or_nat x.toNat y.toNat (by omega) (by omega)
  have b := u16_or_nat y.toNat x.toNat (by omega) (by omega)
  rw [Int.toNat_of_nonneg x0, Int.toNat_of_nonneg y0] at a b
  rw [a, b, Nat.or_comm]
theorem word_low (y v : Int) (y0 : 0 ≤ y) (y1 : y ≤ 65535) (v0 : 0 ≤ v) (v1 : v ≤ 255) : bits .or .u16 (bits .andNot .u16 y 255) v = y / 256 * 256 + v := by
  have e1 : bits .andNot .u16 y 255 = y / 256 * 256 := by
    have := u16_andNot_nat y.toNat 255 (by omega) (by omega)
    rw [Int.toNat_of_nonneg y0] at this
    rw [show ((255 : Nat) : Int) = 255 from rfl] at this
    rw [this]
    have e : y.toNat &&& (65535 - 255) = y.toNat / 256 * 256 := by
      have h : y.toNat &&& 65280 = y.toNat / 256 * 256 := by
        apply Nat.eq_of_testBit_eq
        intro i
        rw [Nat.testBit_and]
        have h1 : (65280 : Nat) = 255 <<< 8 := by decide
        have h2 : y.toNat / 256 * 256 = (y.toNat >>> 8) <<< 8 := by rw [Nat.shiftRight_eq_div_pow, Nat.shiftLeft_eq]
        rw [h1, h2, Nat.testBit_shiftLeft, Nat.testBit_shiftLeft, Nat.testBit_shiftRight]
        by_cases hi : 8 ≤ i
        · simp only [hi, decide_true, Bool.true_and]
          rw [show 8 + (i - 8) = i by omega]
          by_cases h16 : i < 16
          · have : Nat.testBit 255 (i - 8) = true := by
              have : ∀ k : Fin 8, Nat.testBit 255 k.val = true := by decide
              exact this ⟨i - 8, by omega⟩
            rw [this, Bool.and_true]
          · have : y.toNat.testBit i = false := Nat.testBit_lt_two_pow (Nat.lt_of_lt_of_le (show y.toNat < 2 ^ 16 by omega) (Nat.pow_le_pow_right (by omega) (by omega)))
            rw [this, Bool.false_and]
        · simp [hi]
      exact h
    rw [e]; omega
  rw [e1]
  have := or16 v (y / 256) v0 v1 (by omega) (by omega)
  rw [← bits_or_comm16 _ _ (by omega) (by omega) v0 (by omega)] at this
  rw [this]; omega
theorem word_high (y v : Int) (y0 : 0 ≤ y) (y1 : y ≤ 65535) (v0 : 0 ≤ v) (v1 : v ≤ 255) : bits .or .u16 (bits .and .u16 y 255) (v * 256) = y % 256 + v * 256 := by
  have e1 : bits .and .u16 y 255 = y % 256 := by
    have := u16_and_nat y.toNat 255 (by omega) (by omega)
    rw [Int.toNat_of_nonneg y0, show (255 : Nat) = 2 ^ 8 - 1 by decide, Nat.and_two_pow_sub_one_eq_mod] at this
    rw [show ((2 ^ 8 - 1 : Nat) : Int) = 255 by decide] at this
    rw [this]; omega
  rw [e1]
  exact or16 (y % 256) v (by omega) (by omega) v0 v1
section
variable {w : World} {g : Nat} {s : Pt}
/-- A word's byte is put. -/
def PutW (W : World) (g i : Nat) (x : Int) (e : Ending) (w' : World) : Prop := e = .returned (.tuple #[]) ∧ w' = W.setCell ⟨g, i, none⟩ (.int .u16 x)
set_option maxHeartbeats 1000000 in
theorem low_gen (i : Nat) (y v : Int) (c : w.cell? ⟨g, i, none⟩ = some (.int .u16 y)) (fr : w.frozen? ⟨g, i, none⟩ = false) (y0 : 0 ≤ y) (y1 : y ≤ 65535) (v0 : 0 ≤ v) (v1 : v ≤ 255) :
    Calls Tryz.prog 28 #[.pointer (some ⟨g, i, none⟩), .int .u8 v] w (PutW w g i (y / 256 * 256 + v)) := by
  have e1 := word_low y v y0 y1 v0 v1
  have wv : IntKind.u16.wrap v = v := by rw [IntKind.wrap_u16]; omega
  obtain ⟨x, hx⟩ : ∃ x, y / 256 * 256 + v = x := ⟨_, rfl⟩
  rw [hx] at e1 ⊢
  clear hx
  go_enter Tryz.func28, Tryz.ntmps28
  go_wp2_with fail
  go_end0
  exact ⟨rfl, rfl⟩
set_option maxHeartbeats 1000000 in
theorem high_gen (i : Nat) (y v : Int) (c : w.cell? ⟨g, i, none⟩ = some (.int .u16 y)) (fr : w.frozen? ⟨g, i, none⟩ = false) (y0 : 0 ≤ y) (y1 : y ≤ 65535) (v0 : 0 ≤ v) (v1 : v ≤ 255) :
    Calls Tryz.prog 30 #[.pointer (some ⟨g, i, none⟩), .int .u8 v] w (PutW w g i (y % 256 + v * 256)) := by
  have e1 := word_high y v y0 y1 v0 v1
  have wv : IntKind.u16.wrap v = v := by rw [IntKind.wrap_u16]; omega
  have wv2 : IntKind.u16.wrap (v * 256) = v * 256 := by rw [IntKind.wrap_u16]; omega
  obtain ⟨x, hx⟩ : ∃ x, y % 256 + v * 256 = x := ⟨_, rfl⟩
  rw [hx] at e1 ⊢
  clear hx
  go_enter Tryz.func30, Tryz.ntmps30
  go_wp2_with fail
  go_end0
  exact ⟨rfl, rfl⟩
theorem and1_byte (v : Int) (v0 : 0 ≤ v) (v1 : v ≤ 255) : bits .and .u8 v 1 = v % 2 := byte_fact (P := fun v => bits .and .u8 v 1 = v % 2) (by decide +kernel) v v0 v1
set_option maxHeartbeats 1000000 in
theorem clo1 (A : Po w g s) (b : Nat) (v : Int) (y0 : 0 ≤ s.dividend) (y1 : s.dividend ≤ 65535) (v0 : 0 ≤ v) (v1 : v ≤ 255) (cb : w.cell? ⟨b, 0, none⟩ = some (poP g)) :
    Calls Tryz.prog 27 #[.int .u8 v, .pointer (some ⟨b, 0, none⟩)] w (PW w g { s with dividend := s.dividend / 256 * 256 + v } (.tuple #[])) := by
  have L := Lib.hid (low_gen (w := w) (g := g) 5 s.dividend (v) (A.cell 5) (A.frozen 5) y0 y1 (by omega) (by omega))
  have A2 : Hid (Po (w.setCell ⟨g, 5, none⟩ (.int .u16 (s.dividend / 256 * 256 + v))) g { s with dividend := s.dividend / 256 * 256 + v }) := A.set_ 5 _
  have e1 := and1_byte v v0 v1
  obtain ⟨x, hx⟩ : ∃ x, s.dividend / 256 * 256 + v = x := ⟨_, rfl⟩
  rw [hx] at L A2 ⊢
  clear A y0 y1 hx
  go_enter Tryz.func27, Tryz.ntmps27
  go_wp2_with fail
  refine L.out.mono ?_
  rintro e w2 ⟨rfl, rfl⟩
  go_wp2_with fail
  go_end0
  exact ⟨rfl, A2.out, (Upd.refl _ _).set _ _⟩
set_option maxHeartbeats 1000000 in
theorem clo2 (A : Po w g s) (b : Nat) (v : Int) (y0 : 0 ≤ s.dividend) (y1 : s.dividend ≤ 65535) (v0 : 0 ≤ v) (v1 : v ≤ 255) (cb : w.cell? ⟨b, 0, none⟩ = some (poP g)) :
    Calls Tryz.prog 29 #[.int .u8 v, .pointer (some ⟨b, 0, none⟩)] w (PW w g { s with dividend := s.dividend % 256 + v * 256 } (.tuple #[])) := by
  have L := Lib.hid (high_gen (w := w) (g := g) 5 s.dividend (v) (A.cell 5) (A.frozen 5) y0 y1 (by omega) (by omega))
  have A2 : Hid (Po (w.setCell ⟨g, 5, none⟩ (.int .u16 (s.dividend % 256 + v * 256))) g { s with dividend := s.dividend % 256 + v * 256 }) := A.set_ 5 _
  have e1 := and1_byte v v0 v1
  obtain ⟨x, hx⟩ : ∃ x, s.dividend % 256 + v * 256 = x := ⟨_, rfl⟩
  rw [hx] at L A2 ⊢
  clear A y0 y1 hx
  go_enter Tryz.func29, Tryz.ntmps29
  go_wp2_with fail
  refine L.out.mono ?_
  rintro e w2 ⟨rfl, rfl⟩
  go_wp2_with fail
  go_end0
  exact ⟨rfl, A2.out, (Upd.refl _ _).set _ _⟩
set_option maxHeartbeats 1000000 in
theorem clo3 (A : Po w g s) (b : Nat) (v : Int) (y0 : 0 ≤ s.dot) (y1 : s.dot ≤ 65535) (v0 : 0 ≤ v) (v1 : v ≤ 255) (cb : w.cell? ⟨b, 0, none⟩ = some (poP g)) :
    Calls Tryz.prog 32 #[.int .u8 v, .pointer (some ⟨b, 0, none⟩)] w (PW w g { s with dot := s.dot / 256 * 256 + v } (.tuple #[])) := by
  have L := Lib.hid (low_gen (w := w) (g := g) 8 s.dot (v) (A.cell 8) (A.frozen 8) y0 y1 (by omega) (by omega))
  have A2 : Hid (Po (w.setCell ⟨g, 8, none⟩ (.int .u16 (s.dot / 256 * 256 + v))) g { s with dot := s.dot / 256 * 256 + v }) := A.set_ 8 _
  have e1 := and1_byte v v0 v1
  obtain ⟨x, hx⟩ : ∃ x, s.dot / 256 * 256 + v = x := ⟨_, rfl⟩
  rw [hx] at L A2 ⊢
  clear A y0 y1 hx
  go_enter Tryz.func32, Tryz.ntmps32
  go_wp2_with fail
  refine L.out.mono ?_
  rintro e w2 ⟨rfl, rfl⟩
  go_wp2_with fail
  go_end0
  exact ⟨rfl, A2.out, (Upd.refl _ _).set _ _⟩
set_option maxHeartbeats 1000000 in
theorem clo4 (A : Po w g s) (b : Nat) (v : Int) (y0 : 0 ≤ s.dot) (y1 : s.dot ≤ 65535) (v0 : 0 ≤ v) (v1 : v ≤ 255) (cb : w.cell? ⟨b, 0, none⟩ = some (poP g)) :
    Calls Tryz.prog 33 #[.int .u8 v, .pointer (some ⟨b, 0, none⟩)] w (PW w g { s with dot := s.dot % 256 + v % 2 * 256 } (.tuple #[])) := by
  have L := Lib.hid (high_gen (w := w) (g := g) 8 s.dot (v % 2) (A.cell 8) (A.frozen 8) y0 y1 (by omega) (by omega))
  have A2 : Hid (Po (w.setCell ⟨g, 8, none⟩ (.int .u16 (s.dot % 256 + v % 2 * 256))) g { s with dot := s.dot % 256 + v % 2 * 256 }) := A.set_ 8 _
  have e1 := and1_byte v v0 v1
  obtain ⟨x, hx⟩ : ∃ x, s.dot % 256 + v % 2 * 256 = x := ⟨_, rfl⟩
  rw [hx] at L A2 ⊢
  clear A y0 y1 hx
  go_enter Tryz.func33, Tryz.ntmps33
  go_wp2_with fail
  refine L.out.mono ?_
  rintro e w2 ⟨rfl, rfl⟩
  go_wp2_with fail
  go_end0
  exact ⟨rfl, A2.out, (Upd.refl _ _).set _ _⟩
set_option maxHeartbeats 1000000 in
theorem clo5 (A : Po w g s) (b : Nat) (v : Int) (y0 : 0 ≤ s.line) (y1 : s.line ≤ 65535) (v0 : 0 ≤ v) (v1 : v ≤ 255) (cb : w.cell? ⟨b, 0, none⟩ = some (poP g)) :
    Calls Tryz.prog 34 #[.int .u8 v, .pointer (some ⟨b, 0, none⟩)] w (PW w g { s with line := s.line / 256 * 256 + v } (.tuple #[])) := by
  have L := Lib.hid (low_gen (w := w) (g := g) 9 s.line (v) (A.cell 9) (A.frozen 9) y0 y1 (by omega) (by omega))
  have A2 : Hid (Po (w.setCell ⟨g, 9, none⟩ (.int .u16 (s.line / 256 * 256 + v))) g { s with line := s.line / 256 * 256 + v }) := A.set_ 9 _
  have e1 := and1_byte v v0 v1
  obtain ⟨x, hx⟩ : ∃ x, s.line / 256 * 256 + v = x := ⟨_, rfl⟩
  rw [hx] at L A2 ⊢
  clear A y0 y1 hx
  go_enter Tryz.func34, Tryz.ntmps34
  go_wp2_with fail
  refine L.out.mono ?_
  rintro e w2 ⟨rfl, rfl⟩
  go_wp2_with fail
  go_end0
  exact ⟨rfl, A2.out, (Upd.refl _ _).set _ _⟩
set_option maxHeartbeats 1000000 in
theorem clo6 (A : Po w g s) (b : Nat) (v : Int) (y0 : 0 ≤ s.line) (y1 : s.line ≤ 65535) (v0 : 0 ≤ v) (v1 : v ≤ 255) (cb : w.cell? ⟨b, 0, none⟩ = some (poP g)) :
    Calls Tryz.prog 35 #[.int .u8 v, .pointer (some ⟨b, 0, none⟩)] w (PW w g { s with line := s.line % 256 + v % 2 * 256 } (.tuple #[])) := by
  have L := Lib.hid (high_gen (w := w) (g := g) 9 s.line (v % 2) (A.cell 9) (A.frozen 9) y0 y1 (by omega) (by omega))
  have A2 : Hid (Po (w.setCell ⟨g, 9, none⟩ (.int .u16 (s.line % 256 + v % 2 * 256))) g { s with line := s.line % 256 + v % 2 * 256 }) := A.set_ 9 _
  have e1 := and1_byte v v0 v1
  obtain ⟨x, hx⟩ : ∃ x, s.line % 256 + v % 2 * 256 = x := ⟨_, rfl⟩
  rw [hx] at L A2 ⊢
  clear A y0 y1 hx
  go_enter Tryz.func35, Tryz.ntmps35
  go_wp2_with fail
  refine L.out.mono ?_
  rintro e w2 ⟨rfl, rfl⟩
  go_wp2_with fail
  go_end0
  exact ⟨rfl, A2.out, (Upd.refl _ _).set _ _⟩
set_option maxHeartbeats 1000000 in
theorem outputs_any (A : Po w g s) (v : Int) : Calls Tryz.prog 24 #[poP g, .int .u8 v] w (PW w g { s with output := v } (.tuple #[])) := by
  have c : w.cell? ⟨g, 4, none⟩ = some (.int .u8 s.output) := A.cell 4
  have fr := A.frozen 4
  have a2 : Po (w.setCell ⟨g, 4, none⟩ (.int .u8 v)) g { s with output := v } := A.set_ 4 _
  have A2 := Lib.hid a2
  clear A a2
  go_enter Tryz.func24, Tryz.ntmps24
  go_wp2_with fail
  go_end0
  exact ⟨rfl, A2.out, (Upd.refl _ _).set _ _⟩
set_option maxHeartbeats 1000000 in
theorem fasts_any (A : Po w g s) (v : Int) (v0 : 0 ≤ v) (v1 : v ≤ 255) : Calls Tryz.prog 36 #[poP g, .int .u8 v] w (PW w g { s with fast := decide (v % 2 = 1) } (.tuple #[])) := by
  have c : w.cell? ⟨g, 20, none⟩ = some (.bool s.fast) := A.cell 20
  have fr := A.frozen 20
  have e1 := (bit_and v v0 v1).1
  have a2 : Po (w.setCell ⟨g, 20, none⟩ (.bool (decide (v % 2 = 1)))) g { s with fast := decide (v % 2 = 1) } := A.set_ 20 _
  obtain ⟨q, hq⟩ : ∃ q, decide (v % 2 = 1) = q := ⟨_, rfl⟩
  rw [hq] at e1 a2 ⊢
  have A2 := Lib.hid a2
  clear A a2 hq
  go_enter Tryz.func36, Tryz.ntmps36
  go_wp2_with fail
  go_end0
  exact ⟨rfl, A2.out, (Upd.refl _ _).set _ _⟩
def holdF (v : Int) (s : Pt) : Pt := if v % 2 = 1 then { s with held := true, shift0 := s.say0, shift1 := s.say1 } else { s with held := false }
set_option maxHeartbeats 2000000 in
theorem hold_any (A : Po w g s) (v : Int) (v0 : 0 ≤ v) (v1 : v ≤ 255) : Calls Tryz.prog 22 #[poP g, .int .u8 v] w (PW w g (holdF v s) (.tuple #[])) := by
  have c19 : w.cell? ⟨g, 19, none⟩ = some (.bool s.held) := A.cell 19
  have f19 := A.frozen 19
  have e1 := (bit_and v v0 v1).1
  unfold holdF
  by_cases hv : v % 2 = 1
  · rw [if_pos hv]
    rw [decide_eq_true hv] at e1
    have a1 : Po (w.setCell ⟨g, 19, none⟩ (.bool true)) g { s with held := true } := A.set_ 19 (.bool true)
    have d19 : (w.setCell ⟨g, 19, none⟩ (.bool true)).cell? ⟨g, 19, none⟩ = some (.bool true) := a1.cell 19
    have d13 : (w.setCell ⟨g, 19, none⟩ (.bool true)).cell? ⟨g, 13, none⟩ = some (.int .u16 s.say0) := a1.cell 13
    have d14 : (w.setCell ⟨g, 19, none⟩ (.bool true)).cell? ⟨g, 14, none⟩ = some (.int .u16 s.say1) := a1.cell 14
    have d17 : (w.setCell ⟨g, 19, none⟩ (.bool true)).cell? ⟨g, 17, none⟩ = some (.int .u16 s.shift0) := a1.cell 17
    have d18 : (w.setCell ⟨g, 19, none⟩ (.bool true)).cell? ⟨g, 18, none⟩ = some (.int .u16 s.shift1) := a1.cell 18
    have f17 := a1.frozen 17
    have f18 := a1.frozen 18
    obtain ⟨W1, hW⟩ : ∃ W1, W1 = w.setCell ⟨g, 19, none⟩ (.bool true) := ⟨_, rfl⟩
    have A1 := Lib.hid a1
    have HW := Lib.hid hW
    rw [← hW] at d13 d14 d17 d18 d19 f17 f18 A1
    clear A a1 hW hv
    go_enter Tryz.func22, Tryz.ntmps22
    go_upto_region 1 with (fail)
    rw [← HW.out]
    go_wp2_with fail
    try go_region_with (fail)
    all_goals
      go_wp2_with fail
      go_end0
      refine ⟨rfl, (A1.out.set_ 17 (.int .u16 s.say0)).set_ 18 (.int .u16 s.say1), ?_⟩
      have u1 : Upd w g W1 := by rw [HW.out]; exact (Upd.refl _ _).set _ _
      first
        | exact ((u1.set 17 (.int .u16 s.say0)).set 18 (.int .u16 s.say1)).drew
        | exact ((u1.set 17 (.int .u16 s.say0)).set 18 (.int .u16 s.say1))
  · rw [if_neg hv]
    rw [decide_eq_false hv] at e1
    have a1 : Po (w.setCell ⟨g, 19, none⟩ (.bool false)) g { s with held := false } := A.set_ 19 (.bool false)
    have d19 : (w.setCell ⟨g, 19, none⟩ (.bool false)).cell? ⟨g, 19, none⟩ = some (.bool false) := a1.cell 19
    have A1 := Lib.hid a1
    clear A a1 hv
    go_enter Tryz.func22, Tryz.ntmps22
    go_wp2_with fail
    go_end0
    exact ⟨rfl, A1.out, (Upd.refl _ _).set _ _⟩
def ctlF (v : Int) (s : Pt) : Pt := { s with come := s.come || (decide (v / 128 % 2 = 1) && decide (s.control / 128 % 2 = 0) && s.flagged), control := v, irq := s.irq && decide (v / 16 % 2 = 1 ∨ v / 32 % 2 = 1) }
theorem ctl_bits (v c : Int) (v0 : 0 ≤ v) (v1 : v ≤ 255) (c0 : 0 ≤ c) (c1 : c ≤ 255) : (bits .and .u8 (bits .andNot .u8 v c) 128 != 0) = (decide (v / 128 % 2 = 1) && decide (c / 128 % 2 = 0)) := by
  have h := u8_andNot_nat v.toNat c.toNat (by omega) (by omega)
  rw [Int.toNat_of_nonneg v0, Int.toNat_of_nonneg c0] at h
  have hle : v.toNat &&& (255 - c.toNat) ≤ v.toNat := Nat.and_le_left
  rw [h, (bit_and _ (by omega) (by omega)).2.2.2.2]
  rw [← Bool.decide_and]
  apply decide_eq_decide.mpr
  have e : (((v.toNat &&& (255 - c.toNat) : Nat) : Int) / 128 % 2 = 1) ↔ (v.toNat &&& (255 - c.toNat)).testBit 7 = true := by
    rw [Nat.testBit_eq_decide_div_mod_eq]
    simp only [decide_eq_true_eq]
    omega
  rw [e, Nat.testBit_and, Bool.and_eq_true, Nat.testBit_eq_decide_div_mod_eq, Nat.testBit_eq_decide_div_mod_eq]
  simp only [decide_eq_true_eq]
  omega
set_option maxHeartbeats 2000000 in
theorem controls_any (A : Po w g s) (v : Int) (v0 : 0 ≤ v) (v1 : v ≤ 255) (c0 : 0 ≤ s.control) (c1 : s.control ≤ 255) : Calls Tryz.prog 23 #[poP g, .int .u8 v] w (PW w g (ctlF v s) (.tuple #[])) := by
  have d2 : w.cell? ⟨g, 2, none⟩ = some (.int .u8 s.control) := A.cell 2
  have d10 : w.cell? ⟨g, 10, none⟩ = some (.bool s.flagged) := A.cell 10
  have f11 := A.frozen 11
  have f2 := A.frozen 2
  have f12 := A.frozen 12
  have d11 : w.cell? ⟨g, 11, none⟩ = some (.bool s.come) := A.cell 11
  have d12 : w.cell? ⟨g, 12, none⟩ = some (.bool s.irq) := A.cell 12
  have e1 := ctl_bits v s.control v0 v1 c0 c1
  have e2 := (bit_and v v0 v1).2.2.2.1
  have HA := Lib.hid A
  obtain ⟨n, hn⟩ : ∃ n, (decide (v / 128 % 2 = 1) && decide (s.control / 128 % 2 = 0)) = n := ⟨_, rfl⟩
  obtain ⟨k, hk⟩ : ∃ k, decide (v / 16 % 2 = 1 ∨ v / 32 % 2 = 1) = k := ⟨_, rfl⟩
  have RES : Hid (∀ cm iq, cm = (s.come || (n && s.flagged)) → iq = (s.irq && k) → ({ s with come := cm, control := v, irq := iq } : Pt) = ctlF v s) := by
    intro cm iq h1 h2
    subst h1 h2 hn hk
    rfl
  rw [hn] at e1
  rw [hk] at e2
  have e3 : (bits .and .u8 v 48 == 0) = !k := by
    have := e2
    unfold bne at this
    rw [← this, Bool.not_not]
  obtain ⟨c, hc⟩ : ∃ c, s.control = c := ⟨_, rfl⟩
  obtain ⟨fl, hfl⟩ : ∃ c, s.flagged = c := ⟨_, rfl⟩
  have HFL := Lib.hid hfl
  rw [hc] at d2 e1
  rw [hfl] at d10
  have PUT : ∀ cm iq, Hid (Po (((w.setCell ⟨g, 11, none⟩ (.bool cm)).setCell ⟨g, 2, none⟩ (.int .u8 v)).setCell ⟨g, 12, none⟩ (.bool iq)) g { s with come := cm, control := v, irq := iq }) := fun cm iq => ((HA.out.set_ 11 (.bool cm)).set_ 2 (.int .u8 v)).set_ 12 (.bool iq)
  have PUT1 : ∀ cm, Hid (Po ((w.setCell ⟨g, 11, none⟩ (.bool cm)).setCell ⟨g, 2, none⟩ (.int .u8 v)) g { s with come := cm, control := v }) := fun cm => (HA.out.set_ 11 (.bool cm)).set_ 2 (.int .u8 v)
  have PUT2 : ∀ iq, Hid (Po ((w.setCell ⟨g, 2, none⟩ (.int .u8 v)).setCell ⟨g, 12, none⟩ (.bool iq)) g { s with control := v, irq := iq }) := fun iq => (HA.out.set_ 2 (.int .u8 v)).set_ 12 (.bool iq)
  have PUT3 : Hid (Po (w.setCell ⟨g, 2, none⟩ (.int .u8 v)) g { s with control := v }) := HA.out.set_ 2 (.int .u8 v)
  obtain ⟨s2, hs2⟩ : ∃ s2, ctlF v s = s2 := ⟨_, rfl⟩
  rw [hs2] at RES ⊢
  clear A hn hk hc hfl c0 c1 e2 hs2
  cases n
  · cases k
    · go_enter Tryz.func23, Tryz.ntmps23
      go_wp2_with fail
      go_end0
      rw [← RES.out s.come false (by rw [HFL.out]; simp) (by simp)]
      exact ⟨rfl, (PUT2 false).out, (((Upd.refl _ _).set _ _).set _ _)⟩
    · go_enter Tryz.func23, Tryz.ntmps23
      go_wp2_with fail
      go_end0
      rw [← RES.out s.come s.irq (by rw [HFL.out]; simp) (by simp)]
      exact ⟨rfl, PUT3.out, ((Upd.refl _ _).set _ _)⟩
  · cases fl
    · cases k
      · go_enter Tryz.func23, Tryz.ntmps23
        go_wp2_with fail
        go_end0
        rw [← RES.out s.come false (by rw [HFL.out]; simp) (by simp)]
        exact ⟨rfl, (PUT2 false).out, (((Upd.refl _ _).set _ _).set _ _)⟩
      · go_enter Tryz.func23, Tryz.ntmps23
        go_wp2_with fail
        go_end0
        rw [← RES.out s.come s.irq (by rw [HFL.out]; simp) (by simp)]
        exact ⟨rfl, PUT3.out, ((Upd.refl _ _).set _ _)⟩
    · cases k
      · go_enter Tryz.func23, Tryz.ntmps23
        go_wp2_with fail
        go_end0
        rw [← RES.out true false (by rw [HFL.out]; simp) (by simp)]
        exact ⟨rfl, (PUT true false).out, ((((Upd.refl _ _).set _ _).set _ _).set _ _)⟩
      · go_enter Tryz.func23, Tryz.ntmps23
        go_wp2_with fail
        go_end0
        rw [← RES.out true s.irq (by rw [HFL.out]; simp) (by simp)]
        exact ⟨rfl, (PUT1 true).out, (((Upd.refl _ _).set _ _).set _ _)⟩
end
end Go.Proofs.YtniagcbajjmopaaGreat
