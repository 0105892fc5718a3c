/- Going on from the beginning by five clocks. -/
import Derived.Test.YtniagcbajjmopaaPortsA
namespace Go.Proofs.Ytniagcbajjmopaa
open Go.RowKit
set_option linter.unusedVariables false
set_option linter.unusedSimpArgs false
set_option maxRecDepth 100000

theorem isTime0 (w : World) : Calls Try.prog 84 #[.int .i64 0] w (Says w (.bool true)) := by
  go_enter Try.func84, Try.ntmps84
  go_wp2_with fail
  go_ret
  exact ⟨rfl, Below.refl _ _⟩
set_option maxHeartbeats 1000000 in
theorem until0 (l h d : Int) (w : World) (hd : (l = 225 ∧ h = 0 ∧ d = 306900) ∨ (l = 0 ∧ h = 0 ∧ d = 357368) ∨ (l = 225 ∧ h = 130 ∧ d = 307030)) :
    Calls Try.prog 58 #[.int .i64 0, .int .i64 l, .int .i64 h] w (Says w (.tuple #[.int .i64 d, .bool true])) := by
  rcases hd with ⟨rfl, rfl, rfl⟩ | ⟨rfl, rfl, rfl⟩ | ⟨rfl, rfl, rfl⟩
  all_goals
    go_enter Try.func58, Try.ntmps58
    go_wp2_with fail
    refine (isTime0 _).mono ?_
    rintro e w1 ⟨rfl, hb⟩
    go_wp2_with fail
    go_ret2
    exact ⟨rfl, hb⟩
theorem last0 (w : World) : Calls Try.prog 56 #[.bool false] w (Says w (.int .i64 224)) := by
  go_enter Try.func56, Try.ntmps56
  go_wp2_with fail
  go_ret
  exact ⟨rfl, Below.refl _ _⟩

/-- What a step of five clocks from the time 0 holds. -/
structure Sw (w : World) (g b0 b1 b2 : Nat) (s : Pt) : Prop where
  p : Po w g s
  k0 : Blk w b0 23 #[poP g]
  k1 : Blk w b1 3 #[.int .i64 5]
  k2 : Blk w b2 3 #[.int .i64 5]
  now : s.now = 0
  n0 : b0 ≠ b2
  n1 : b1 ≠ b2
  ng : g ≠ b2
variable {w w' : World} {g b0 b1 b2 : Nat} {s : Pt}
theorem Sw.kept (h : Sw w g b0 b1 b2 s) (hb : Below w.heap.size w w') : Sw w' g b0 b1 b2 s := ⟨h.p.kept hb, h.k0.kept hb, h.k1.kept hb, h.k2.kept hb, h.now, h.n0, h.n1, h.ng⟩
theorem Sw.put (h : Sw w g b0 b1 b2 s) : Sw (w.setCell ⟨b2, 0, none⟩ (.int .i64 5)) g b0 b1 b2 s :=
  ⟨h.p.other (fun e => h.ng e.symm) _, h.k0.other (fun e => h.n0 e.symm) _, h.k1.other (fun e => h.n1 e.symm) _, h.k2.set_ 0 _, h.now, h.n0, h.n1, h.ng⟩
theorem Sw.facts (h : Sw w g b0 b1 b2 s) : w.cell? ⟨b0, 0, none⟩ = some (poP g) ∧ w.cell? ⟨b1, 0, none⟩ = some (.int .i64 5) ∧ w.cell? ⟨b2, 0, none⟩ = some (.int .i64 5) ∧ w.cell? ⟨g, 0, none⟩ = some (.int .i64 0) ∧ w.frozen? ⟨b2, 0, none⟩ = false := by
  refine ⟨h.k0.cell 0, h.k1.cell 0, h.k2.cell 0, ?_, h.k2.frozen 0⟩
  have := h.p.cell 0
  rw [this, ← h.now]; rfl
set_option maxHeartbeats 2000000 in
theorem look0 (K : Sw w g b0 b1 b2 s) (l h d : Int) (hd : (l = 225 ∧ h = 0 ∧ d = 306900) ∨ (l = 0 ∧ h = 0 ∧ d = 357368) ∨ (l = 225 ∧ h = 130 ∧ d = 307030)) :
    Calls Try.prog 57 #[.int .i64 l, .int .i64 h, .pointer (some ⟨b0, 0, none⟩), .pointer (some ⟨b1, 0, none⟩), .pointer (some ⟨b2, 0, none⟩)] w (fun e w' => e = .returned (.int .i64 d) ∧ Sw w' g b0 b1 b2 s ∧ Upd w b2 w') := by
  have UN := Lib.hid (fun w => until0 l h d w hd)
  have hd2 : d = 306900 ∨ d = 357368 ∨ d = 307030 := by omega
  obtain ⟨c0, c1, c2, cg, f2⟩ := K.facts
  have HK := Lib.hid K
  clear K hd
  have wd : IntKind.i64.wrap d = d := by rcases hd2 with rfl | rfl | rfl <;> decide
  have wn : ¬ d < 5 := by omega
  have wn2 : ¬ d ≤ 5 := by omega
  go_enter Try.func57, Try.ntmps57
  go_wp2_with fail
  refine (UN.out _).mono ?_
  rintro e w1 ⟨rfl, hb1⟩
  have k1 := HK.out.kept hb1
  obtain ⟨c0, c1, c2, cg, f2⟩ := k1.facts
  have K1 := Lib.hid k1
  have U1 := Lib.hid (Upd.ofBelow hb1 b2)
  have hdd : 5 < d := by omega
  have hmin : min 5 d = 5 := by omega
  have hdb : d ≤ 400000 := by omega
  clear k1 hb1 HK UN hd2
  go_upto_region 4 with (fail)
  go_cut [] from 24 to 31 (fun wx => Sw wx g b0 b1 b2 s ∧ Upd w1 b2 wx)
  case first =>
    go_region_with (fail)
    all_goals
      go_wp2_with fail
      go_meet
      exact ⟨K1.out.put.kept (Below.refl _ _).drew, ((Upd.refl _ _).set _ _).drew⟩
  case rest =>
    obtain ⟨k2, u2⟩ := hcut
    obtain ⟨c0, c1, c2, cg, f2⟩ := k2.facts
    have K2 := Lib.hid k2
    have U2 := Lib.hid (U1.out.trans u2)
    clear k2 u2 K1 U1
    go_wp2_with fail
    go_ret
    exact ⟨by first | rfl | simp, K2.out, U2.out⟩

set_option maxHeartbeats 2000000 in
theorem late0 (A : Po w g s) (hc : s.control = 0) : Calls Try.prog 59 #[poP g] w (Says w (.tuple #[.int .i64 (-1), .int .i64 0, .bool false])) := by
  have c2 : w.cell? ⟨g, 2, none⟩ = some (.int .u8 s.control) := A.cell 2
  rw [hc] at c2
  have z1 : (bits .and .u8 0 32 != 0) = false := by decide +kernel
  have z2 : (bits .and .u8 0 16 != 0) = false := by decide +kernel
  have z3 : (bits .and .u8 0 48 != 0) = false := by decide +kernel
  have hlt := A.lt
  clear A hc
  go_enter Try.func59, Try.ntmps59
  go_wp2_with fail
  go_quiet (fail)
  go_wp2
  go_ret3
  exact ⟨by first | rfl | simp [z3], belowN (Below.refl _ _) _⟩
end Go.Proofs.Ytniagcbajjmopaa
