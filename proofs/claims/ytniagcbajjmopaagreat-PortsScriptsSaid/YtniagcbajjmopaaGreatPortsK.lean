/- Until, Last, look, late: at every state. -/
import Derived.Test.YtniagcbajjmopaaGreatPortsJ
import Derived.Test.YtniagcbajjmopaaGreatPortsC
namespace Go.Proofs.YtniagcbajjmopaaGreat
open Go.RowKit
set_option linter.unusedVariables false
set_option linter.unusedSimpArgs false
set_option maxRecDepth 100000

theorem isTime_yes (t : Int) (w : World) (h0 : 0 ≤ t) (h1 : t ≤ 281474976710656) :
    Calls Tryz.prog 86 #[.int .i64 t] w fun e w' => e = .returned (.bool true) ∧ w = w' := by
  go_enter Tryz.func86, Tryz.ntmps86
  go_wp2
  go_ret
  exact ⟨rfl, rfl⟩
def UntilP (t line h : Int) (w : World) (e : Ending) (w' : World) : Prop := ∃ d : Int, untilIs t line h d ∧ d ≤ 357368 ∧ e = .returned (.tuple #[.int .i64 d, .bool true]) ∧ w = w'
theorem until_neg (t line h : Int) (w : World) (t0 : 0 ≤ t) (t1 : t ≤ 281474976710656) (h0 : 0 ≤ h) (h1 : h < 1364) (hl : line < 0) :
    Calls Tryz.prog 75 #[.int .i64 t, .int .i64 line, .int .i64 h] w (UntilP t line h w) := by
  cases hd : ((h - t % 1364 + 1364) % 1364 == 0)
  all_goals
    go_enter Tryz.func75, Tryz.ntmps75
    go_wp2_with (go_at_call 86; refine (isTime_yes _ _ t0 t1).mono ?_; rintro e w' ⟨rfl, rfl⟩)
    go_ret2
    simp at hd
    exact ⟨_, ⟨by omega, by omega, by omega⟩, by omega, rfl, rfl⟩
theorem until_pos (t line h : Int) (w : World) (t0 : 0 ≤ t) (t1 : t ≤ 281474976710656) (h0 : 0 ≤ h) (h1 : h < 1364) (hl : 0 ≤ line) (hl1 : line < 262) :
    Calls Tryz.prog 75 #[.int .i64 t, .int .i64 line, .int .i64 h] w (UntilP t line h w) := by
  cases hd : ((h + line * 1364 - t % 357368 + 357368) % 357368 == 0)
  all_goals
    go_enter Tryz.func75, Tryz.ntmps75
    go_wp2_with (go_at_call 86; refine (isTime_yes _ _ t0 t1).mono ?_; rintro e w' ⟨rfl, rfl⟩)
    go_ret2
    simp at hd
    exact ⟨_, ⟨by omega, by omega, by omega⟩, by omega, rfl, rfl⟩
theorem until_yes (t line h : Int) (w : World) (t0 : 0 ≤ t) (t1 : t ≤ 281474976710656) (hv : lineOk line h) :
    Calls Tryz.prog 75 #[.int .i64 t, .int .i64 line, .int .i64 h] w (UntilP t line h w) := by
  obtain ⟨h0, h1, hl⟩ := hv
  by_cases c : line < 0
  · exact until_neg t line h w t0 t1 h0 h1 c
  · exact until_pos t line h w t0 t1 h0 h1 (by omega) hl
theorem until_no (t line h : Int) (w : World) (t0 : 0 ≤ t) (t1 : t ≤ 281474976710656) (h0 : 0 ≤ h) (hv : ¬ lineOk line h) :
    Calls Tryz.prog 75 #[.int .i64 t, .int .i64 line, .int .i64 h] w fun e w' => e = .returned (.tuple #[.int .i64 0, .bool false]) ∧ w = w' := by
  have hv'' : 1364 ≤ h ∨ (h < 1364 ∧ 262 ≤ line) := by unfold lineOk at hv; omega
  clear hv
  rcases hv'' with c | ⟨c2, c⟩
  all_goals
    go_enter Tryz.func75, Tryz.ntmps75
    go_wp2_with (go_at_call 86; refine (isTime_yes _ _ t0 t1).mono ?_; rintro e w' ⟨rfl, rfl⟩)
    go_ret2
    exact ⟨rfl, rfl⟩
theorem last_any (o : Bool) (w : World) : Calls Tryz.prog 63 #[.bool o] w (Says w (.int .i64 (behind o - 1))) := by
  cases o
  all_goals
    go_enter Tryz.func63, Tryz.ntmps63
    go_wp2
    go_ret
    exact ⟨rfl, Below.refl _ _⟩

/-- What a step holds. -/
structure Sx (w : World) (g b0 b1 b2 : Nat) (s : Pt) (T x : Int) : Prop where
  p : Po w g s
  k0 : Blk w b0 23 #[poP g]
  k1 : Blk w b1 3 #[.int .i64 T]
  k2 : Blk w b2 3 #[.int .i64 x]
  n0 : b0 ≠ b2
  n1 : b1 ≠ b2
  ng : g ≠ b2
  m0 : b0 ≠ g
  m1 : b1 ≠ g
variable {w w' : World} {g b0 b1 b2 : Nat} {s : Pt} {T x : Int}
theorem Sx.kept (h : Sx w g b0 b1 b2 s T x) (hb : Below w.heap.size w w') : Sx w' g b0 b1 b2 s T x := ⟨h.p.kept hb, h.k0.kept hb, h.k1.kept hb, h.k2.kept hb, h.n0, h.n1, h.ng, h.m0, h.m1⟩
theorem Sx.put (h : Sx w g b0 b1 b2 s T x) (y : Int) : Sx (w.setCell ⟨b2, 0, none⟩ (.int .i64 y)) g b0 b1 b2 s T y :=
  ⟨h.p.other (fun e => h.ng e.symm) _, h.k0.other (fun e => h.n0 e.symm) _, h.k1.other (fun e => h.n1 e.symm) _, h.k2.set_ 0 _, h.n0, h.n1, h.ng, h.m0, h.m1⟩
theorem Sx.facts (h : Sx w g b0 b1 b2 s T x) : w.cell? ⟨b0, 0, none⟩ = some (poP g) ∧ w.cell? ⟨b1, 0, none⟩ = some (.int .i64 T) ∧ w.cell? ⟨b2, 0, none⟩ = some (.int .i64 x) ∧ w.cell? ⟨g, 0, none⟩ = some (.int .i64 s.now) ∧ w.frozen? ⟨b2, 0, none⟩ = false :=
  ⟨h.k0.cell 0, h.k1.cell 0, h.k2.cell 0, h.p.cell 0, h.k2.frozen 0⟩
def LookP (w : World) (g b0 b1 b2 : Nat) (s : Pt) (T x l h : Int) (e : Ending) (w' : World) : Prop := ∃ n, e = .returned (.int .i64 n) ∧ NextIs s.now T l h n ∧ Sx w' g b0 b1 b2 s T (min x n) ∧ Upd w b2 w' ∧ n ≤ 281474977068024
set_option maxHeartbeats 2000000 in
theorem look_yes (K : Sx w g b0 b1 b2 s T x) (l h : Int) (h0 : 0 ≤ s.now) (h1 : s.now < T) (h2 : T ≤ 281474976710656) (x1 : x ≤ T) (x0 : s.now < x) (ok : lineOk l h) :
    Calls Tryz.prog 74 #[.int .i64 l, .int .i64 h, .pointer (some ⟨b0, 0, none⟩), .pointer (some ⟨b1, 0, none⟩), .pointer (some ⟨b2, 0, none⟩)] w (LookP w g b0 b1 b2 s T x l h) := by
  unfold LookP
  have HS := Lib.hid (show s.now = s.now from rfl)
  obtain ⟨nw, hnw⟩ : ∃ nw, s.now = nw := ⟨_, rfl⟩
  obtain ⟨c0, c1, c2, cg, f2⟩ := K.facts
  rw [hnw] at cg h0 h1 x0 ⊢
  have UN := Lib.hid (fun w => until_yes nw l h w h0 (by omega) ok)
  have HO := Lib.hid ok
  have HK := Lib.hid K
  have HNW := Lib.hid hnw
  clear K ok hnw HS
  go_enter Tryz.func74, Tryz.ntmps74
  go_wp2_with fail
  refine (UN.out _).mono ?_
  rintro e w1 ⟨d, hu, hd, rfl, rfl⟩
  have hd1 : 1 ≤ d := hu.1
  have HU := Lib.hid hu
  clear hu UN
  have ew : IntKind.i64.wrap (nw + d) = nw + d := by rw [IntKind.wrap_i64]; omega
  go_upto_region 4 with (fail)
  obtain ⟨m, hm⟩ : ∃ m, min x (nw + d) = m := ⟨_, rfl⟩
  go_cut [] from 24 to 31 (fun wx => Sx wx g b0 b1 b2 s T m ∧ Upd w b2 wx)
  case first =>
    by_cases hlt : nw + d < x
    · have hm2 : m = nw + d := by omega
      subst hm2
      go_region_with (fail)
      all_goals
        go_wp2_with fail
        go_meet
        exact ⟨(HK.out.put _).kept (Below.refl _ _).drew, ((Upd.refl _ _).set _ _).drew⟩
    · have hm2 : m = x := by omega
      subst hm2
      have hge : m ≤ nw + d := by omega
      go_region_with (fail)
      all_goals
        go_wp2_with fail
        go_meet
        exact ⟨(HK.out.put _).kept (Below.refl _ _).drew, ((Upd.refl _ _).set _ _).drew⟩
  case rest =>
    obtain ⟨k2, u2⟩ := hcut
    obtain ⟨c0, c1, c2, cg, f2⟩ := k2.facts
    have K2 := Lib.hid k2
    have U2 := Lib.hid u2
    rw [HNW.out] at cg
    clear k2 u2
    go_wp2_with fail
    go_ret
    refine ⟨nw + d, by first | rfl | simp, Or.inl ⟨HO.out, by rw [show nw + d - nw = d by omega]; exact HU.out⟩, by rw [hm]; exact K2.out, U2.out, by omega⟩
set_option maxHeartbeats 2000000 in
theorem look_no (K : Sx w g b0 b1 b2 s T x) (l h : Int) (h0 : 0 ≤ s.now) (h1 : s.now < T) (h2 : T ≤ 281474976710656) (x1 : x ≤ T) (x0 : s.now < x) (hh : 0 ≤ h) (ok : ¬ lineOk l h) :
    Calls Tryz.prog 74 #[.int .i64 l, .int .i64 h, .pointer (some ⟨b0, 0, none⟩), .pointer (some ⟨b1, 0, none⟩), .pointer (some ⟨b2, 0, none⟩)] w (LookP w g b0 b1 b2 s T x l h) := by
  unfold LookP
  obtain ⟨nw, hnw⟩ : ∃ nw, s.now = nw := ⟨_, rfl⟩
  obtain ⟨c0, c1, c2, cg, f2⟩ := K.facts
  rw [hnw] at cg h0 h1 x0 ⊢
  have UN := Lib.hid (fun w => until_no nw l h w h0 (by omega) hh ok)
  have HO := Lib.hid ok
  have HK := Lib.hid K
  clear K ok hnw
  have ew : IntKind.i64.wrap (T + 1) = T + 1 := by rw [IntKind.wrap_i64]; omega
  go_enter Tryz.func74, Tryz.ntmps74
  go_wp2_with fail
  refine (UN.out _).mono ?_
  rintro e w1 ⟨rfl, rfl⟩
  clear UN
  go_wp2_with fail
  go_ret
  refine ⟨T + 1, by first | rfl | simp, Or.inr ⟨HO.out, hh, rfl⟩, by rw [show min x (T + 1) = x by omega]; exact HK.out, Upd.refl _ _, by omega⟩
theorem look_any (K : Sx w g b0 b1 b2 s T x) (l h : Int) (h0 : 0 ≤ s.now) (h1 : s.now < T) (h2 : T ≤ 281474976710656) (x1 : x ≤ T) (x0 : s.now < x) (hh : 0 ≤ h) :
    Calls Tryz.prog 74 #[.int .i64 l, .int .i64 h, .pointer (some ⟨b0, 0, none⟩), .pointer (some ⟨b1, 0, none⟩), .pointer (some ⟨b2, 0, none⟩)] w (LookP w g b0 b1 b2 s T x l h) := by
  by_cases ok : lineOk l h
  · exact look_yes K l h h0 h1 h2 x1 x0 ok
  · exact look_no K l h h0 h1 h2 x1 x0 hh ok

theorem bit_and (c : Int) (h0 : 0 ≤ c) (h1 : c ≤ 255) : (bits .and .u8 c 1 != 0) = decide (c % 2 = 1) ∧ (bits .and .u8 c 16 != 0) = decide (c / 16 % 2 = 1) ∧ (bits .and .u8 c 32 != 0) = decide (c / 32 % 2 = 1) ∧ (bits .and .u8 c 48 != 0) = decide (c / 16 % 2 = 1 ∨ c / 32 % 2 = 1) ∧ (bits .and .u8 c 128 != 0) = decide (c / 128 % 2 = 1) :=
  byte_fact (P := fun c => (bits .and .u8 c 1 != 0) = decide (c % 2 = 1) ∧ (bits .and .u8 c 16 != 0) = decide (c / 16 % 2 = 1) ∧ (bits .and .u8 c 32 != 0) = decide (c / 32 % 2 = 1) ∧ (bits .and .u8 c 48 != 0) = decide (c / 16 % 2 = 1 ∨ c / 32 % 2 = 1) ∧ (bits .and .u8 c 128 != 0) = decide (c / 128 % 2 = 1)) (by decide +kernel) c h0 h1
set_option maxHeartbeats 2000000 in
theorem late_any (A : Po w g s) (c0 : 0 ≤ s.control) (c1 : s.control ≤ 255) (d0 : 0 ≤ s.dot) (d1 : s.dot ≤ 65535) (l0 : 0 ≤ s.line) (l1 : s.line ≤ 65535) : Calls Tryz.prog 76 #[poP g] w (Says w (.tuple #[.int .i64 (irqL s), .int .i64 (irqH s), .bool (wants s)])) := by
  have c2 : w.cell? ⟨g, 2, none⟩ = some (.int .u8 s.control) := A.cell 2
  have c8 : w.cell? ⟨g, 8, none⟩ = some (.int .u16 s.dot) := A.cell 8
  have c9 : w.cell? ⟨g, 9, none⟩ = some (.int .u16 s.line) := A.cell 9
  obtain ⟨_, z1, z2, z3, _⟩ := bit_and s.control c0 c1
  have hlt := A.lt
  have e1 : irqL s = if s.control / 32 % 2 = 1 then s.line else -1 := rfl
  have e2 : irqH s = if s.control / 16 % 2 = 1 then 4 * s.dot else 0 := rfl
  have e3 : wants s = decide (s.control / 16 % 2 = 1 ∨ s.control / 32 % 2 = 1) := rfl
  rw [e1, e2, e3]
  obtain ⟨c, hc⟩ : ∃ c, s.control = c := ⟨_, rfl⟩
  obtain ⟨d, hd⟩ : ∃ d, s.dot = d := ⟨_, rfl⟩
  obtain ⟨l, hl⟩ : ∃ l, s.line = l := ⟨_, rfl⟩
  rw [hc] at c2 z1 z2 z3 ⊢
  rw [hd] at c8 d0 d1 ⊢
  rw [hl] at c9 l0 l1 ⊢
  obtain ⟨y3, hy3⟩ : ∃ y, decide (c / 16 % 2 = 1 ∨ c / 32 % 2 = 1) = y := ⟨_, rfl⟩
  rw [hy3] at z3 ⊢
  have ed : IntKind.i64.wrap (4 * d) = 4 * d := by rw [IntKind.wrap_i64]; omega
  clear A e1 e2 e3 hc hd hl c0 c1 hy3
  by_cases q1 : c / 16 % 2 = 1
  · rw [decide_eq_true q1] at z1
    rw [if_pos q1]
    by_cases q2 : c / 32 % 2 = 1
    · rw [decide_eq_true q2] at z2
      rw [if_pos q2]
      clear q1 q2
      go_enter Tryz.func76, Tryz.ntmps76
      go_wp2_with fail
      go_quiet (fail)
      go_wp2
      go_ret3
      exact ⟨by first | rfl | simp [z3], belowN (Below.refl _ _) _⟩
    · rw [decide_eq_false q2] at z2
      rw [if_neg q2]
      clear q1 q2
      go_enter Tryz.func76, Tryz.ntmps76
      go_wp2_with fail
      go_quiet (fail)
      go_wp2
      go_ret3
      exact ⟨by first | rfl | simp [z3], belowN (Below.refl _ _) _⟩
  · rw [decide_eq_false q1] at z1
    rw [if_neg q1]
    by_cases q2 : c / 32 % 2 = 1
    · rw [decide_eq_true q2] at z2
      rw [if_pos q2]
      clear q1 q2
      go_enter Tryz.func76, Tryz.ntmps76
      go_wp2_with fail
      go_quiet (fail)
      go_wp2
      go_ret3
      exact ⟨by first | rfl | simp [z3], belowN (Below.refl _ _) _⟩
    · rw [decide_eq_false q2] at z2
      rw [if_neg q2]
      clear q1 q2
      go_enter Tryz.func76, Tryz.ntmps76
      go_wp2_with fail
      go_quiet (fail)
      go_wp2
      go_ret3
      exact ⟨by first | rfl | simp [z3], belowN (Below.refl _ _) _⟩
end Go.Proofs.YtniagcbajjmopaaGreat
