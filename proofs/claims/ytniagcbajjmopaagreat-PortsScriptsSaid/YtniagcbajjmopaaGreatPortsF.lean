/- Advance; awake. -/
import Derived.Test.YtniagcbajjmopaaGreatPortsDs
import Derived.WalkMore
namespace Go.Proofs.YtniagcbajjmopaaGreat
open Go.RowKit
set_option linter.unusedVariables false
set_option linter.unusedSimpArgs false
set_option maxRecDepth 100000
variable {w w' : World} {g : Nat} {s : Pt}
set_option maxHeartbeats 4000000 in
theorem advance5 (A : Po w g s) (hn : s.now = 0) (hc : s.control = 0) (ho : s.over = false) (hs : s.soon = 0) :
    Calls Tryz.prog 14 #[poP g, .int .i64 5] w (PW w g { s with now := 5, soon := 306900 } (.int .i64 0)) := by
  have c0 : w.cell? ⟨g, 0, none⟩ = some (.int .i64 s.now) := A.cell 0
  rw [hn] at c0
  have HA := Lib.hid A
  have ST := Lib.hid (fun (w' : World) (a : Po w' g s) => step5 a hn hc ho)
  clear A
  go_enter Tryz.func14, Tryz.ntmps14
  go_wp2_with fail
  go_step3
  go_wp2_with fail
  go_step3
  go_wp2_with fail
  go_loopw [] (fun wr => (Po wr g s ∧ Upd w g wr) ∨ (Po wr g { s with now := 5, soon := 306900 } ∧ Upd w g wr)) (fun wr => match wr.cell? ⟨g, 0, none⟩ with | some (.int _ x) => (5 - x).toNat | _ => 0)
  case atStart => exact Or.inl ⟨HA.out, Upd.refl _ _⟩
  case round =>
    rcases hrel with ⟨a, u⟩ | ⟨a, u⟩
    · have d0 : wr.cell? ⟨g, 0, none⟩ = some (.int .i64 s.now) := a.cell 0
      have d22 : wr.cell? ⟨g, 22, none⟩ = some (.int .i64 s.soon) := a.cell 22
      rw [hn] at d0
      rw [hs] at d22
      have AA := Lib.hid a
      have U := Lib.hid u
      clear a u c0 HA
      go_wp2_with fail
      refine (ST.out _ AA.out).mono ?_
      rintro e w2 ⟨rfl, a2, u2⟩
      have e0 : w2.cell? ⟨g, 0, none⟩ = some (.int .i64 5) := a2.cell 0
      have A2 := Lib.hid a2
      have U2 := Lib.hid (U.out.trans u2)
      clear a2 u2
      go_wp2_with fail
      go_roundw
      case rel => exact Or.inr ⟨A2.out, U2.out⟩
      case measure => rw [e0, d0]; simp
    · have d0 : wr.cell? ⟨g, 0, none⟩ = some (.int .i64 5) := a.cell 0
      have AA := Lib.hid a
      have U := Lib.hid u
      clear a u c0 HA
      go_wp2_with fail
      rw [Exit.noGoto_ret]
      go_ret
      exact ⟨rfl, AA.out, U.out⟩
set_option maxHeartbeats 1000000 in
theorem now_any (A : Po w g s) : Calls Tryz.prog 16 #[poP g] w (Says w (.int .i64 s.now)) := by
  have c0 : w.cell? ⟨g, 0, none⟩ = some (.int .i64 s.now) := A.cell 0
  clear A
  go_enter Tryz.func16, Tryz.ntmps16
  go_wp2_with fail
  go_ret
  exact ⟨rfl, Below.refl _ _⟩
set_option maxHeartbeats 4000000 in
theorem awake_any (w : World) : Calls Tryz.prog 21 #[] w (Says w (.bool true)) := by
  go_enter Tryz.func21, Tryz.ntmps21
  go_wp2_with fail
  refine (new_any w).mono ?_
  rintro e w1 ⟨g, rfl, hg, a', hb1⟩
  have A1 := Lib.hid a'
  have B1 := Lib.hid hb1
  clear a' hb1
  go_wp2_with fail
  refine (write_factor A1.out 18).mono ?_
  rintro e w2 ⟨rfl, a', u'⟩
  have A2 := Lib.hid a'
  have B2 := Lib.hid (u'.out B1.out hg)
  clear a' u' A1 B1
  go_wp2_with fail
  refine (write_multiply A2.out 52 (by show (0 : Int) ≤ 18; omega) (by show (18 : Int) ≤ 255; omega) (by omega) (by omega)).mono ?_
  rintro e w3 ⟨rfl, a', u'⟩
  have A3 := Lib.hid a'
  have B3 := Lib.hid (u'.out B2.out hg)
  clear a' u' A2 B2
  go_wp2_with fail
  refine (read_word A3.out 16918 0 168 (Or.inr (Or.inr (Or.inl ⟨rfl, rfl⟩))) (by show (0 : Int) ≤ 52; omega) (by show (52 : Int) ≤ 65535; omega) (by show (0 : Int) ≤ 18 * 52; omega) (by show (18 * 52 : Int) ≤ 65535; omega)).mono ?_
  rintro e w4 ⟨rfl, hb4⟩
  have A4 := Lib.hid (A3.out.kept hb4)
  have B4 := Lib.hid (B3.out.trans (hb4.mono B3.out.size))
  clear hb4 A3 B3
  go_wp2_with fail
  refine (advance5 A4.out rfl rfl rfl rfl).mono ?_
  rintro e w5 ⟨rfl, a', u'⟩
  have A5 := Lib.hid a'
  have B5 := Lib.hid (u'.out B4.out hg)
  clear a' u' A4 B4
  go_wp2_with fail
  refine (now_any A5.out).mono ?_
  rintro e w6 ⟨rfl, hb6⟩
  have B6 := Lib.hid (B5.out.trans (hb6.mono B5.out.size))
  clear hb6 A5 B5
  go_wp2_with fail
  go_ret
  exact ⟨rfl, B6.out⟩
end Go.Proofs.YtniagcbajjmopaaGreat
