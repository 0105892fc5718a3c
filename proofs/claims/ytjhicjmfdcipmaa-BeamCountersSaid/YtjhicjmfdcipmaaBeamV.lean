/- beam: a counter read; the document's counter. -/
import Derived.Test.YtjhicjmfdcipmaaBeamU
import Derived.Test.YtjhicjmfdcipmaaSaveJ
namespace Go.Proofs.Ytjhicjmfdcipmaa
open Go.RowKit
set_option linter.unusedVariables false
set_option linter.unusedSimpArgs false
set_option maxRecDepth 100000
/-- A byte of a number. -/
def half (n : Int) (h : Bool) : Int := if h then n / 256 % 256 else n % 256
def frameN (t : Int) : Int := if isT t then t / 357368 else 0
def oddF (t : Int) : Bool := decide (frameN t % 2 = 1)
def stB (k o : Bool) : Int := 3 + (if k then 64 else 0) + (if o then 128 else 0)
/-- What a read says, and leaves. -/
def rdF (p t : Int) (c : Ct) : (Int × Bool) × Ct :=
  if p = 60 then ((half c.dn c.dh, true), { c with dh := !c.dh }) else
  if p = 61 then ((half c.ln c.lh, true), { c with lh := !c.lh }) else
  if p = 63 then ((stB c.kept (oddF t), true), { c with kept := false, dh := false, lh := false }) else ((0, false), c)
/-- The document's counter in memory. -/
abbrev Ro (w : World) (g : Nat) (c : Ct) : Prop := Blk w g 37 c.rs
def RoW (W : World) (g : Nat) (c : Ct) (v : Value) (e : Ending) (w' : World) : Prop := e = .returned v ∧ Ro w' g c ∧ Upd W g w'
section
variable {w : World} {g : Nat} {c : Ct}
theorem isT_yes {t : Int} (h : isT t = true) : 0 ≤ t ∧ t ≤ 281474976710656 := by
  unfold isT at h
  rw [Bool.and_eq_true, decide_eq_true_iff, decide_eq_true_iff] at h
  exact h
theorem isT_no {t : Int} (h : isT t = false) : t < 0 ∨ 281474976710656 < t := by
  unfold isT at h
  rw [Bool.and_eq_false_iff, decide_eq_false_iff_not, decide_eq_false_iff_not] at h
  omega
theorem of_any (t : Int) (w : World) : Calls Try.prog 12 #[.int .i64 t] w fun e w' => (∃ l h d, e = .returned (beamV (frameN t) l h d)) ∧ Below w.heap.size w w' := by
  by_cases h : isT t = true
  · refine (beamOf_yes t w (isT_yes h).1 (isT_yes h).2).mono ?_
    rintro e w' ⟨rfl, rfl⟩
    exact ⟨⟨_, _, _, by unfold frameN; rw [if_pos h]⟩, belowA (Below.refl _ _) _⟩
  · refine (beamOf_no t w (isT_no (by simpa using h))).mono ?_
    rintro e w' ⟨rfl, rfl⟩
    exact ⟨⟨_, _, _, by unfold frameN; rw [if_neg h]⟩, belowA (Below.refl _ _) _⟩
set_option maxHeartbeats 2000000 in
theorem value_read (o : Nat) (n : Int) (h : Bool) (cn : w.cell? ⟨g, o, none⟩ = some (.int .u16 n)) (ch : w.cell? ⟨g, o + 1, none⟩ = some (.bool h)) (f : w.frozen? ⟨g, o + 1, none⟩ = false) (n0 : 0 ≤ n) (n1 : n ≤ 65535) :
    Calls Try.prog 44 #[.pointer (some ⟨g, o, none⟩)] w (fun e w' => e = .returned (.int .u8 (half n h)) ∧ w' = w.setCell ⟨g, o + 1, none⟩ (.bool !h)) := by
  cases h
  all_goals
    go_enter Try.func44, Try.ntmps44
    go_wp2_with fail
    go_ret
    exact ⟨by first | rfl | (simp [half] <;> omega), rfl⟩
theorem field0 (f l h d : Int) (w : World) : (Instr.field 23 (beamV f l h d) 0).run Try.prog w = .ok (.int .i64 f) w := by kernel_rfl
theorem status_bits : bits .or .u8 3 64 = 67 ∧ bits .or .u8 3 128 = 131 ∧ bits .or .u8 67 128 = 195 := by decide
set_option maxHeartbeats 4000000 in
theorem status_any (A : Co w g c) (t : Int) : Calls Try.prog 45 #[ctP g, .int .i64 t] w (CtW w g { c with kept := false, dh := false, lh := false } (.int .u8 (stB c.kept (oddF t)))) := by
  have OF := Lib.hid (of_any t)
  have AA := Lib.hid A
  have k4 : w.cell? ⟨g, 4, none⟩ = some (.bool c.kept) := A.cell 4
  obtain ⟨b1, b2, b3⟩ := status_bits
  have ho : oddF t = decide (frameN t % 2 = 1) := rfl
  have HO := Lib.hid ho
  obtain ⟨fr, hfr⟩ : ∃ fr, frameN t = fr := ⟨_, rfl⟩
  have fr0 : 0 ≤ fr := by
    rw [← hfr]; unfold frameN
    split
    · next h => have := (isT_yes h).1; omega
    · omega
  rw [hfr] at HO
  obtain ⟨kp, hkp⟩ : ∃ kp, c.kept = kp := ⟨_, rfl⟩
  rw [hkp] at k4 ⊢
  have OF' : Hid (∀ w, Calls Try.prog 12 #[.int .i64 t] w fun e w' => (∃ l h d, e = .returned (beamV fr l h d)) ∧ Below w.heap.size w w') := Lib.hid (by rw [← hfr]; exact OF.out)
  have hfd := field0 fr
  clear OF hfr hkp A ho
  by_cases q : fr % 2 = 1
  all_goals
    cases kp
    all_goals
      go_enter Try.func45, Try.ntmps45
      go_wp2_with fail
      refine (OF'.out _).mono ?_
      rintro e w1 ⟨⟨l, h, d, rfl⟩, hb⟩
      have A1 := AA.out.kept hb
      have c1 := A1.cell 1
      have c3 := A1.cell 3
      have c4 := A1.cell 4
      have f1 := A1.frozen 1
      have f3 := A1.frozen 3
      have f4 := A1.frozen 4
      have HA := Lib.hid A1
      have HB := Lib.hid hb
      simp only [Ct.cs] at c1 c3 c4
      clear A1 hb
      go_wp2_with fail
      go_ret
      refine ⟨by rw [HO.out]; simp [q, stB], ((HA.out.set_ 4 _).set_ 1 _).set_ 3 _, (((Upd.ofBelow HB.out g).set _ _).set _ _).set _ _⟩
set_option maxHeartbeats 4000000 in
theorem read_any (A : Co w g c) (K : c.Ok) (p t : Int) : Calls Try.prog 27 #[ctP g, .int .u8 p, .int .i64 t] w (CtW w g (rdF p t c).2 (.tuple #[.int .u8 (rdF p t c).1.1, .bool (rdF p t c).1.2])) := by
  obtain ⟨d0, d1, l0, l1⟩ := K
  have V0 := Lib.hid (value_read 0 c.dn c.dh (A.cell 0) (A.cell 1) (A.frozen 1) d0 d1)
  have V2 := Lib.hid (value_read 2 c.ln c.lh (A.cell 2) (A.cell 3) (A.frozen 3) l0 l1)
  have ST := Lib.hid (status_any A t)
  have AA := Lib.hid A
  have HR : Hid (rdF p t c = rdF p t c) := Lib.hid rfl
  obtain ⟨x0, hx0⟩ : ∃ x0, half c.dn c.dh = x0 := ⟨_, rfl⟩
  obtain ⟨x2, hx2⟩ : ∃ x2, half c.ln c.lh = x2 := ⟨_, rfl⟩
  obtain ⟨x3, hx3⟩ : ∃ x3, stB c.kept (oddF t) = x3 := ⟨_, rfl⟩
  have R60 : Hid (p = 60 → rdF p t c = ((x0, true), { c with dh := !c.dh })) := Lib.hid (fun h => by unfold rdF; rw [if_pos h, hx0])
  have R61 : Hid (p = 61 → rdF p t c = ((x2, true), { c with lh := !c.lh })) := Lib.hid (fun h => by unfold rdF; rw [if_neg (by omega), if_pos h, hx2])
  have R63 : Hid (p = 63 → rdF p t c = ((x3, true), { c with kept := false, dh := false, lh := false })) := Lib.hid (fun h => by unfold rdF; rw [if_neg (by omega), if_neg (by omega), if_pos h, hx3])
  have RNO : Hid (p ≠ 60 → p ≠ 61 → p ≠ 63 → rdF p t c = ((0, false), c)) := Lib.hid (fun h1 h2 h3 => by unfold rdF; rw [if_neg h1, if_neg h2, if_neg h3])
  rw [hx0] at V0
  rw [hx2] at V2
  rw [hx3] at ST
  clear A hx0 hx2 hx3 HR
  by_cases p60 : p = 60
  · rw [R60.out p60]
    subst p60
    go_enter Try.func27, Try.ntmps27
    go_wp2_with fail
    refine V0.out.mono ?_
    rintro e w1 ⟨rfl, rfl⟩
    go_wp2_with fail
    go_ret2
    exact ⟨rfl, AA.out.set_ 1 _, (Upd.refl _ _).set _ _⟩
  · by_cases p61 : p = 61
    · rw [R61.out p61]
      subst p61
      go_enter Try.func27, Try.ntmps27
      go_wp2_with fail
      refine V2.out.mono ?_
      rintro e w1 ⟨rfl, rfl⟩
      go_wp2_with fail
      go_ret2
      exact ⟨rfl, AA.out.set_ 3 _, (Upd.refl _ _).set _ _⟩
    · by_cases p63 : p = 63
      · rw [R63.out p63]
        subst p63
        go_enter Try.func27, Try.ntmps27
        go_wp2_with fail
        refine ST.out.mono ?_
        rintro e w1 ⟨rfl, a1, u1⟩
        have A1 := Lib.hid a1
        have U1 := Lib.hid u1
        clear a1 u1
        go_wp2_with fail
        go_ret2
        exact ⟨rfl, A1.out, U1.out⟩
      · rw [RNO.out p60 p61 p63]
        have q1 : (p == 60) = false := by simpa using p60
        have q2 : (p == 61) = false := by simpa using p61
        have q3 : (p == 63) = false := by simpa using p63
        go_enter Try.func27, Try.ntmps27
        go_wp2_with fail
        go_ret2
        exact ⟨rfl, AA.out, Upd.refl _ _⟩
/-! The document's. -/
theorem half_any (n : Int) (h : Bool) (w : World) (n0 : 0 ≤ n) (n1 : n ≤ 65535) : Calls Try.prog 46 #[.int .i64 n, .bool h] w fun e w' => e = .returned (.int .u8 (half n h)) ∧ w' = w := by
  cases h
  all_goals
    go_enter Try.func46, Try.ntmps46
    go_wp2_with fail
    go_ret
    exact ⟨by first | rfl | (simp [half] <;> omega), rfl⟩
theorem rOf_any (t : Int) (w : World) : Calls Try.prog 18 #[.int .i64 t] w fun e w' => (∃ l h d, e = .returned (beamV (frameN t) l h d)) ∧ Below w.heap.size w w' := by
  by_cases h : isT t = true
  · refine (rOf_yes t w (isT_yes h).1 (isT_yes h).2).mono ?_
    rintro e w' ⟨rfl, rfl⟩
    exact ⟨⟨_, _, _, by unfold frameN; rw [if_pos h]⟩, belowA (Below.refl _ _) _⟩
  · refine (rOf_no t w (isT_no (by simpa using h))).mono ?_
    rintro e w' ⟨rfl, rfl⟩
    exact ⟨⟨_, _, _, by unfold frameN; rw [if_neg h]⟩, belowA (Below.refl _ _) _⟩
set_option maxHeartbeats 4000000 in
theorem rLatch_yes (A : Ro w g c) (t : Int) (t0 : 0 ≤ t) (t1 : t ≤ 281474976710656) : Calls Try.prog 29 #[.pointer (some ⟨g, 0, none⟩), .int .i64 t] w (RoW w g (latchC t c) (.tuple #[])) := by
  have hlt := A.lt
  obtain ⟨fr, hfr⟩ : ∃ fr, t / 357368 = fr := ⟨_, rfl⟩
  obtain ⟨ln, hln⟩ : ∃ ln, t % 357368 / 1364 = ln := ⟨_, rfl⟩
  obtain ⟨hh, hhh⟩ : ∃ hh, t % 1364 = hh := ⟨_, rfl⟩
  obtain ⟨dn, hdn⟩ : ∃ dn, t % 1364 / 4 = dn := ⟨_, rfl⟩
  have BO : Hid (∀ w, Calls Try.prog 18 #[.int .i64 t] w fun e w' => e = .returned (beamV fr ln hh dn) ∧ w.alloc (beamO fr ln hh dn) = w') := Lib.hid (fun w => by
    have := rOf_yes t w t0 t1
    rwa [hdn, hhh, hln, hfr] at this)
  have LC : Hid (latchC t c = { c with dn := dn, ln := ln, kept := true }) := Lib.hid (by unfold latchC; rw [hdn, hln])
  have AA := Lib.hid A
  clear A hfr hln hhh hdn
  go_enter Try.func29, Try.ntmps29
  go_wp2_with fail
  refine (rIs_yes t w t0 t1).mono ?_
  rintro e w1 ⟨rfl, rfl⟩
  go_wp2_with fail
  refine (BO.out _).mono ?_
  rintro e w1 ⟨rfl, rfl⟩
  go_upto_region 2 with (fail)
  obtain ⟨B, hB⟩ : ∃ B, B = w.heap.size + 1 := ⟨_, rfl⟩
  obtain ⟨W2, hW⟩ : ∃ W2, W2 = (w.alloc (beamO fr ln hh dn)).alloc (.cells #[.int .i64 fr, .int .i64 ln, .int .i64 hh, .int .i64 dn] 23) := ⟨_, rfl⟩
  have cb : Below w.heap.size w W2 := by rw [hW]; exact belowA (belowA (Below.refl _ _) _) _
  have k : Blk W2 B 23 #[.int .i64 fr, .int .i64 ln, .int .i64 hh, .int .i64 dn] := by
    rw [hW, hB]
    have := Blk.new (w.alloc (beamO fr ln hh dn)) 23 #[.int .i64 fr, .int .i64 ln, .int .i64 hh, .int .i64 dn]
    simpa using this
  rw [← hW, ← hB]
  have nB : B ≠ g := by omega
  have e1 : W2.cell? ⟨B, 1, none⟩ = some (.int .i64 ln) := k.cell 1
  have e3 : W2.cell? ⟨B, 3, none⟩ = some (.int .i64 dn) := k.cell 3
  have a2 := AA.out.kept cb
  have c0 := a2.cell 0
  have c1 := a2.cell 1
  have c2 := a2.cell 2
  have f0 := a2.frozen 0
  have f1 := a2.frozen 1
  have f2 := a2.frozen 2
  simp only [Ct.rs] at c0 c1 c2
  have A2 := Lib.hid a2
  have CB := Lib.hid cb
  clear hW hB cb k AA BO a2
  go_wp2_with fail
  (first | go_end0 | refine bodyPost_ret (results_none rfl _ _ _) rfl ?_)
  refine ⟨rfl, ?_, ((((Upd.ofBelow CB.out g).set _ _).set _ _).set _ _)⟩
  rw [LC.out]
  exact ((A2.out.set_ 0 _).set_ 1 _).set_ 2 _
theorem rLatch_no (t : Int) (h : t < 0 ∨ 281474976710656 < t) (w : World) (g : Nat) : Calls Try.prog 29 #[.pointer (some ⟨g, 0, none⟩), .int .i64 t] w fun e w' => e = .returned (.tuple #[]) ∧ Below w.heap.size w w' := by
  go_enter Try.func29, Try.ntmps29
  go_wp2_with fail
  refine (rIs_no t w h).mono ?_
  rintro e w1 ⟨rfl, rfl⟩
  go_wp2_with fail
  (first | go_end0 | refine bodyPost_ret (results_none rfl _ _ _) rfl ?_)
  exact ⟨rfl, Below.refl _ _⟩
end
end Go.Proofs.Ytjhicjmfdcipmaa
