/- beam: the document's counter read; a reader that has come to its end. -/
import Derived.Test.YtjhicjmfdcipmaaBeamV
import Derived.Deep.QuietTactic
import Derived.BigQuiet
namespace Go.Proofs.Ytjhicjmfdcipmaa
open Go.RowKit
set_option linter.unusedVariables false
set_option linter.unusedSimpArgs false
set_option maxRecDepth 100000
theorem rfield0 (f l h d : Int) (w : World) : (Instr.field 23 (beamV f l h d) 0).run Try.prog w = .ok (.int .i64 f) w := by kernel_rfl
section
variable {w : World} {g : Nat} {c : Ct}
set_option maxHeartbeats 8000000 in
theorem rRead_any (A : Ro w g c) (K : c.Ok) (p t : Int) : Calls Try.prog 30 #[.pointer (some ⟨g, 0, none⟩), .int .u8 p, .int .i64 t] w (RoW w g (rdF p t c).2 (.tuple #[.int .u8 (rdF p t c).1.1, .bool (rdF p t c).1.2])) := by
  obtain ⟨d0, d1, l0, l1⟩ := K
  have OF := Lib.hid (rOf_any t)
  have AA := Lib.hid A
  have k0 : w.cell? ⟨g, 0, none⟩ = some (.int .i64 c.dn) := A.cell 0
  have k1 : w.cell? ⟨g, 1, none⟩ = some (.int .i64 c.ln) := A.cell 1
  have k2 : w.cell? ⟨g, 2, none⟩ = some (.bool c.kept) := A.cell 2
  have k3 : w.cell? ⟨g, 3, none⟩ = some (.bool c.dh) := A.cell 3
  have k4 : w.cell? ⟨g, 4, none⟩ = some (.bool c.lh) := A.cell 4
  have f2 := A.frozen 2
  have f3 := A.frozen 3
  have f4 := A.frozen 4
  have hlt := A.lt
  have V0 : Hid (∀ w, Calls Try.prog 46 #[.int .i64 c.dn, .bool c.dh] w fun e w' => e = .returned (.int .u8 (half c.dn c.dh)) ∧ w' = w) := Lib.hid (fun w => half_any c.dn c.dh w d0 d1)
  have V1 : Hid (∀ w, Calls Try.prog 46 #[.int .i64 c.ln, .bool c.lh] w fun e w' => e = .returned (.int .u8 (half c.ln c.lh)) ∧ w' = w) := Lib.hid (fun w => half_any c.ln c.lh w l0 l1)
  have ho : oddF t = decide (frameN t % 2 = 1) := rfl
  have HO := Lib.hid ho
  obtain ⟨fr, hfr⟩ : ∃ fr, frameN t = fr := ⟨_, rfl⟩
  have fr0 : 0 ≤ fr := by
    rw [← hfr]; unfold frameN
    split
    · next h => have := (isT_yes h).1; omega
    · omega
  rw [hfr] at HO
  have OF' : Hid (∀ w, Calls Try.prog 18 #[.int .i64 t] w fun e w' => (∃ l h d, e = .returned (beamV fr l h d)) ∧ Below w.heap.size w w') := Lib.hid (by rw [← hfr]; exact OF.out)
  obtain ⟨x0, hx0⟩ : ∃ x0, half c.dn c.dh = x0 := ⟨_, rfl⟩
  obtain ⟨x2, hx2⟩ : ∃ x2, half c.ln c.lh = x2 := ⟨_, rfl⟩
  obtain ⟨kp, hkp⟩ : ∃ kp, c.kept = kp := ⟨_, rfl⟩
  have R60 : Hid (p = 60 → rdF p t c = ((x0, true), { c with dh := !c.dh })) := Lib.hid (fun h => by unfold rdF; rw [if_pos h, hx0])
  have R61 : Hid (p = 61 → rdF p t c = ((x2, true), { c with lh := !c.lh })) := Lib.hid (fun h => by unfold rdF; rw [if_neg (by omega), if_pos h, hx2])
  have R63 : Hid (p = 63 → rdF p t c = ((stB kp (oddF t), true), { c with kept := false, dh := false, lh := false })) := Lib.hid (fun h => by unfold rdF; rw [if_neg (by omega), if_neg (by omega), if_pos h, hkp])
  have RNO : Hid (p ≠ 60 → p ≠ 61 → p ≠ 63 → rdF p t c = ((0, false), c)) := Lib.hid (fun h1 h2 h3 => by unfold rdF; rw [if_neg h1, if_neg h2, if_neg h3])
  rw [hx0] at V0
  rw [hx2] at V1
  rw [hkp] at k2
  have hfd := rfield0 fr
  clear A hx0 hx2 hkp hfr OF ho
  by_cases p60 : p = 60
  · rw [R60.out p60]
    subst p60
    clear k1 k2 k4 f2 f4 R61 R63 RNO
    go_enter Try.func30, Try.ntmps30
    go_wp2_with fail
    go_quiet ((go_at_call 46; exact Calls.quiet_of_same (V0.out _)))
    go_wp2_with fail
    go_ret2
    exact ⟨rfl, (AA.out.drewN _).set_ 3 _, ((Upd.refl _ _).drewN _).set _ _⟩
  · by_cases p61 : p = 61
    · rw [R61.out p61]
      subst p61
      clear k0 k2 k3 f2 f3 R60 R63 RNO
      go_enter Try.func30, Try.ntmps30
      go_wp2_with fail
      go_quiet ((go_at_call 46; exact Calls.quiet_of_same (V1.out _)))
      go_wp2_with fail
      go_ret2
      exact ⟨rfl, (AA.out.drewN _).set_ 4 _, ((Upd.refl _ _).drewN _).set _ _⟩
    · by_cases p63 : p = 63
      · rw [R63.out p63]
        subst p63
        clear k0 k1 k3 k4 f2 f3 f4 R60 R61 RNO
        by_cases q : fr % 2 = 1
        all_goals
          cases kp
          all_goals
            go_enter Try.func30, Try.ntmps30
            go_wp2_with fail
            refine (OF'.out _).mono ?_
            rintro e w1 ⟨⟨l, h, d, rfl⟩, hb⟩
            have A1 := AA.out.kept hb
            have c2 : w1.cell? ⟨g, 2, none⟩ = some (.bool _) := A1.cell 2
            have c3 : w1.cell? ⟨g, 3, none⟩ = some (.bool c.dh) := A1.cell 3
            have c4 : w1.cell? ⟨g, 4, none⟩ = some (.bool c.lh) := A1.cell 4
            have f2 := A1.frozen 2
            have f3 := A1.frozen 3
            have f4 := A1.frozen 4
            have HA := Lib.hid A1
            have HB := Lib.hid hb
            clear A1 hb
            go_wp2_with fail
            go_ret2
            refine ⟨by rw [HO.out]; simp [q, stB], ((HA.out.set_ 2 _).set_ 3 _).set_ 4 _, (((Upd.ofBelow HB.out g).set _ _).set _ _).set _ _⟩
      · rw [RNO.out p60 p61 p63]
        have q1 : (p == 60) = false := by simpa using p60
        have q2 : (p == 61) = false := by simpa using p61
        have q3 : (p == 63) = false := by simpa using p63
        go_enter Try.func30, Try.ntmps30
        go_wp2_with fail
        go_ret2
        exact ⟨rfl, AA.out, Upd.refl _ _⟩
end
theorem rdDone_any {w : World} {gr bg cc : Nat} {bs : List Int} (H : Rd w gr bg cc bs.length bs) : Calls Try.prog 31 #[.pointer (some ⟨gr, 0, none⟩)] w (fun e w' => e = .returned (.int .i64 0) ∧ Below w.heap.size w w') := by
  have c1 : w.cell? ⟨gr, 1, none⟩ = some (.int .i64 bs.length) := H.blk.cell 1
  have c2 : w.cell? ⟨gr, 2, none⟩ = some (.int .i64 bs.length) := H.blk.cell 2
  have c19 : w.cell? ⟨gr, 19, none⟩ = some (.int .i64 0) := H.blk.cell 19
  clear H
  go_enter Try.func31, Try.ntmps31
  go_wp2_with fail
  go_quiet (fail)
  go_wp2_with fail
  go_ret
  exact ⟨rfl, belowN (Below.refl _ _) _⟩
end Go.Proofs.Ytjhicjmfdcipmaa
