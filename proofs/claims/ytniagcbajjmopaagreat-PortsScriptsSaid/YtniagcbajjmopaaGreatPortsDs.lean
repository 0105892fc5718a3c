/- Going on from the beginning by five clocks. Going on by five clocks; awake. -/
import Derived.Test.YtniagcbajjmopaaGreatPortsA
import Derived.Test.YtniagcbajjmopaaGreatPortsC
namespace Go.Proofs.YtniagcbajjmopaaGreat
open Go.RowKit
set_option linter.unusedVariables false
set_option linter.unusedSimpArgs false
set_option maxRecDepth 100000

theorem isTime0 (w : World) : Calls Tryz.prog 86 #[.int .i64 0] w (Says w (.bool true)) := by
  go_enter Tryz.func86, Tryz.ntmps86
  go_wp2_with fail
  go_ret
  exact ⟨rfl, Below.refl _ _⟩
set_option maxHeartbeats 1000000 in
theorem until0 (l h d : Int) (w : World) (hd : (l = 225 ∧ h = 0 ∧ d = 306900) ∨ (l = 0 ∧ h = 0 ∧ d = 357368) ∨ (l = 225 ∧ h = 130 ∧ d = 307030)) :
    Calls Tryz.prog 75 #[.int .i64 0, .int .i64 l, .int .i64 h] w (Says w (.tuple #[.int .i64 d, .bool true])) := by
  rcases hd with ⟨rfl, rfl, rfl⟩ | ⟨rfl, rfl, rfl⟩ | ⟨rfl, rfl, rfl⟩
  all_goals
    go_enter Tryz.func75, Tryz.ntmps75
    go_wp2_with fail
    refine (isTime0 _).mono ?_
    rintro e w1 ⟨rfl, hb⟩
    go_wp2_with fail
    go_ret2
    exact ⟨rfl, hb⟩
theorem last0 (w : World) : Calls Tryz.prog 63 #[.bool false] w (Says w (.int .i64 224)) := by
  go_enter Tryz.func63, Tryz.ntmps63
  go_wp2_with fail
  go_ret
  exact ⟨rfl, Below.refl _ _⟩

/-- What a step of five clocks from the time 0 holds. -/
structure Sw (w : World) (g b0 b1 b2 : Nat) (s : Pt) : Prop where
  p : Po w g s
  k0 : Blk w b0 23 #[poP g]
  k1 : Blk w b1 3 #[.int .i64 5]
  k2 : Blk w b2 3 #[.int .i64 5]
  now : s.now = 0
  n0 : b0 ≠ b2
  n1 : b1 ≠ b2
  ng : g ≠ b2
variable {w w' : World} {g b0 b1 b2 : Nat} {s : Pt}
theorem Sw.kept (h : Sw w g b0 b1 b2 s) (hb : Below w.heap.size w w') : Sw w' g b0 b1 b2 s := ⟨h.p.kept hb, h.k0.kept hb, h.k1.kept hb, h.k2.kept hb, h.now, h.n0, h.n1, h.ng⟩
theorem Sw.put (h : Sw w g b0 b1 b2 s) : Sw (w.setCell ⟨b2, 0, none⟩ (.int .i64 5)) g b0 b1 b2 s :=
  ⟨h.p.other (fun e => h.ng e.symm) _, h.k0.other (fun e => h.n0 e.symm) _, h.k1.other (fun e => h.n1 e.symm) _, h.k2.set_ 0 _, h.now, h.n0, h.n1, h.ng⟩
theorem Sw.facts (h : Sw w g b0 b1 b2 s) : w.cell? ⟨b0, 0, none⟩ = some (poP g) ∧ w.cell? ⟨b1, 0, none⟩ = some (.int .i64 5) ∧ w.cell? ⟨b2, 0, none⟩ = some (.int .i64 5) ∧ w.cell? ⟨g, 0, none⟩ = some (.int .i64 0) ∧ w.frozen? ⟨b2, 0, none⟩ = false := by
  refine ⟨h.k0.cell 0, h.k1.cell 0, h.k2.cell 0, ?_, h.k2.frozen 0⟩
  have := h.p.cell 0
  rw [this, ← h.now]; rfl
set_option maxHeartbeats 2000000 in
theorem look0 (K : Sw w g b0 b1 b2 s) (l h d : Int) (hd : (l = 225 ∧ h = 0 ∧ d = 306900) ∨ (l = 0 ∧ h = 0 ∧ d = 357368) ∨ (l = 225 ∧ h = 130 ∧ d = 307030)) :
    Calls Tryz.prog 74 #[.int .i64 l, .int .i64 h, .pointer (some ⟨b0, 0, none⟩), .pointer (some ⟨b1, 0, none⟩), .pointer (some ⟨b2, 0, none⟩)] w (fun e w' => e = .returned (.int .i64 d) ∧ Sw w' g b0 b1 b2 s ∧ Upd w b2 w') := by
  have UN := Lib.hid (fun w => until0 l h d w hd)
  have hd2 : d = 306900 ∨ d = 357368 ∨ d = 307030 := by omega
  obtain ⟨c0, c1, c2, cg, f2⟩ := K.facts
  have HK := Lib.hid K
  clear K hd
  have wd : IntKind.i64.wrap d = d := by rcases hd2 with rfl | rfl | rfl <;> decide
  have wn : ¬ d < 5 := by omega
  have wn2 : ¬ d ≤ 5 := by omega
  go_enter Tryz.func74, Tryz.ntmps74
  go_wp2_with fail
  refine (UN.out _).mono ?_
  rintro e w1 ⟨rfl, hb1⟩
  have k1 := HK.out.kept hb1
  obtain ⟨c0, c1, c2, cg, f2⟩ := k1.facts
  have K1 := Lib.hid k1
  have U1 := Lib.hid (Upd.ofBelow hb1 b2)
  have hdd : 5 < d := by omega
  have hmin : min 5 d = 5 := by omega
  have hdb : d ≤ 400000 := by omega
  clear k1 hb1 HK UN hd2
  go_upto_region 4 with (fail)
  go_cut [] from 24 to 31 (fun wx => Sw wx g b0 b1 b2 s ∧ Upd w1 b2 wx)
  case first =>
    go_region_with (fail)
    all_goals
      go_wp2_with fail
      go_meet
      exact ⟨K1.out.put.kept (Below.refl _ _).drew, ((Upd.refl _ _).set _ _).drew⟩
  case rest =>
    obtain ⟨k2, u2⟩ := hcut
    obtain ⟨c0, c1, c2, cg, f2⟩ := k2.facts
    have K2 := Lib.hid k2
    have U2 := Lib.hid (U1.out.trans u2)
    clear k2 u2 K1 U1
    go_wp2_with fail
    go_ret
    exact ⟨by first | rfl | simp, K2.out, U2.out⟩

set_option maxHeartbeats 2000000 in
theorem late0 (A : Po w g s) (hc : s.control = 0) : Calls Tryz.prog 76 #[poP g] w (Says w (.tuple #[.int .i64 (-1), .int .i64 0, .bool false])) := by
  have c2 : w.cell? ⟨g, 2, none⟩ = some (.int .u8 s.control) := A.cell 2
  rw [hc] at c2
  have z1 : (bits .and .u8 0 32 != 0) = false := by decide +kernel
  have z2 : (bits .and .u8 0 16 != 0) = false := by decide +kernel
  have z3 : (bits .and .u8 0 48 != 0) = false := by decide +kernel
  have hlt := A.lt
  clear A hc
  go_enter Tryz.func76, Tryz.ntmps76
  go_wp2_with fail
  go_quiet (fail)
  go_wp2
  go_ret3
  exact ⟨by first | rfl | simp [z3], belowN (Below.refl _ _) _⟩
end Go.Proofs.YtniagcbajjmopaaGreat

namespace Go.Proofs.YtniagcbajjmopaaGreat
open Go.RowKit
set_option linter.unusedVariables false
set_option linter.unusedSimpArgs false
set_option maxRecDepth 100000
variable {w w' : World} {g : Nat} {s : Pt}
def lookV (b0 b1 b2 : Nat) : Value := .func (.func 74) #[] #[.pointer (some ⟨b0, 0, none⟩), .pointer (some ⟨b1, 0, none⟩), .pointer (some ⟨b2, 0, none⟩)]
def stS (b0 b1 b2 : Nat) : Nat → Value → List Value → World → Prop
  | 0, v, _, _ => v = lookV b0 b1 b2
  | 1, v, _, _ => v = .int .i64 225
  | 2, v, _, _ => v = .int .i64 306900
  | 3, v, _, _ => v = lookV b0 b1 b2
  | 4, v, _, _ => v = .int .i64 357368
  | 5, v, _, _ => v = lookV b0 b1 b2
  | 6, v, _, _ => v = .int .i64 225
  | 7, v, _, _ => v = .int .i64 307030
  | 8, v, _, _ => v = .int .i64 5
  | 9, v, _, _ => v = .int .i64 6
  | 10, v, _, _ => v = .int .i64 306900
  | 11, v, _, _ => v = .int .i64 357368
  | 12, v, _, _ => v = .int .i64 307030
  | 13, v, _, _ => v = .int .i64 6
  | _, _, _, _ => True
theorem stS_mono {b0 b1 b2 : Nat} (i : Nat) (v : Value) (q : List Value) (w w' : World) (h : stS b0 b1 b2 i v q w) (k : True) : stS b0 b1 b2 i v q w' := by
  match i, h with
  | 0, h => exact h
  | 1, h => exact h
  | 2, h => exact h
  | 3, h => exact h
  | 4, h => exact h
  | 5, h => exact h
  | 6, h => exact h
  | 7, h => exact h
  | 8, h => exact h
  | 9, h => exact h
  | 10, h => exact h
  | 11, h => exact h
  | 12, h => exact h
  | 13, h => exact h
  | i + 14, _ => exact True.intro
set_option maxHeartbeats 4000000 in
theorem step5 (A : Po w g s) (hn : s.now = 0) (hc : s.control = 0) (ho : s.over = false) :
    Calls Tryz.prog 53 #[poP g, .int .i64 5] w (PW w g { s with now := 5, soon := 306900 } (.tuple #[])) := by
  have c21 : w.cell? ⟨g, 21, none⟩ = some (.bool s.over) := A.cell 21
  rw [ho] at c21
  have hlt := A.lt
  have HA := Lib.hid A
  have LS := Lib.hid last0
  clear A
  go_enter Tryz.func53, Tryz.ntmps53
  go_upto_region 1 with (fail)
  obtain ⟨W2, hW⟩ : ∃ W2, W2 = (w.alloc (.cells #[poP g] 23)).alloc (.cells #[.int .i64 5] 3) := ⟨_, rfl⟩
  obtain ⟨B, hB⟩ : ∃ B, B = w.heap.size := ⟨_, rfl⟩
  have k0 : Blk W2 B 23 #[poP g] := by rw [hW, hB]; exact (Blk.new _ _ _).alloc _
  have k1 : Blk W2 (B + 1) 3 #[.int .i64 5] := by
    rw [hW, hB]
    have := Blk.new (w.alloc (.cells #[poP g] 23)) 3 #[.int .i64 5]
    simpa using this
  have a2 : Po W2 g s := by rw [hW]; exact (HA.out.alloc _).alloc _
  have cb : Below w.heap.size w W2 := by rw [hW]; exact belowA (belowA (Below.refl _ _) _) _
  rw [← hW, ← hB]
  have e0 := k0.cell 0
  have e1 := k1.cell 0
  have e21 := keepC cb c21
  have hgB : g < B := by omega
  have K0 := Lib.hid k0
  have K1 := Lib.hid k1
  have A2 := Lib.hid a2
  have CB := Lib.hid cb
  have HBs := Lib.hid hB
  clear hW k0 k1 a2 cb hB c21 HA
  go_wp2_with fail
  refine (LS.out _).mono ?_
  rintro e w3 ⟨rfl, hb3⟩
  have e0 := keepC hb3 e0
  have e1 := keepC hb3 e1
  have A3 := Lib.hid (A2.out.kept hb3)
  have K03 := Lib.hid (K0.out.kept hb3)
  have K13 := Lib.hid (K1.out.kept hb3)
  have CB3 := Lib.hid (CB.out.trans (hb3.mono CB.out.size))
  have b1lt := (K1.out.kept hb3).lt
  clear hb3 A2 K0 K1 CB LS e21
  go_upto_region 4 with (fail)
  obtain ⟨W4, hW⟩ : ∃ W4, W4 = w3.alloc (.cells #[.int .i64 5] 3) := ⟨_, rfl⟩
  obtain ⟨b2, hb2⟩ : ∃ b2, b2 = w3.heap.size := ⟨_, rfl⟩
  have sw : Sw W4 g B (B + 1) b2 s := by
    have hlt3 := A3.out.lt
    refine ⟨?_, ?_, ?_, ?_, hn, by omega, by omega, by omega⟩
    · rw [hW]; exact A3.out.alloc _
    · rw [hW]; exact K03.out.alloc _
    · rw [hW]; exact K13.out.alloc _
    · rw [hW, hb2]; exact Blk.new _ _ _
  have CB4 : Hid (Below w.heap.size w W4) := by rw [hW]; exact belowA CB3.out _
  have hb2w : Hid (w.heap.size ≤ b2) := by rw [hb2]; exact CB3.out.size
  rw [← hW, ← hb2]
  have swd := sw.kept (Below.refl W4.heap.size W4).drew
  obtain ⟨p0, p1, p2, pg, pf⟩ := swd.facts
  have S4 := Lib.hid swd
  clear hW hb2 sw swd A3 K03 K13 CB3 e0 e1 b1lt
  go_cut [7, 8, 9, 10] from 22 to 31 (fun s7 s8 s9 s10 wx => s7 = .int .i64 306900 ∧ s8 = .int .i64 357368 ∧ s9 = .int .i64 307030 ∧ s10 = .int .i64 6 ∧ Sw wx g B (B + 1) b2 s ∧ Upd W4 b2 wx)
  case first =>
    refine wp_region_rel (C := fun w' => Sw w' g B (B + 1) b2 s ∧ Upd W4 b2 w') (S := stS B (B + 1) b2) (Ev := fun _ _ => True) (by kernel_rfl) (by kernel_rfl) stS_mono ?_ ?_ ?_
    · exact ⟨S4.out, (Upd.refl _ _).drew⟩
    · simp only [stepsOf]
      refine ⟨fun us w' hw hd => stepOf_plain rfl ?_, fun us w' hw hd => stepOf_plain rfl ?_, fun us w' hw hd => stepOf_plain rfl ?_, fun us w' hw hd => stepOf_plain rfl ?_, fun us w' hw hd => stepOf_plain rfl ?_, fun us w' hw hd => stepOf_plain rfl ?_, fun us w' hw hd => stepOf_plain rfl ?_, fun us w' hw hd => stepOf_plain rfl ?_, fun us w' hw hd => stepOf_plain rfl ?_, fun us w' hw hd => stepOf_plain rfl ?_, fun us w' hw hd => stepOf_plain rfl ?_, fun us w' hw hd => stepOf_plain rfl ?_, fun us w' hw hd => stepOf_plain rfl ?_, fun us w' hw hd => stepOf_plain rfl ?_, trivial⟩
      all_goals simp only [fill, List.filterMap_cons, List.filterMap_nil]
      · go_simp
        exact ⟨_, rfl, hw, rfl, trivial⟩
      · go_simp
        exact ⟨_, rfl, hw, rfl, trivial⟩
      · have h : us 22 = lookV B (B + 1) b2 := hd.1 rfl
        have h2 : us 23 = .int .i64 225 := hd.2.1 rfl
        obtain ⟨k, u⟩ := hw
        have LK := Lib.hid (look0 k 225 0 306900 (by omega))
        have U := Lib.hid u
        unfold lookV at h
        clear k u
        go_simp
        refine LK.out.mono ?_
        rintro e w2 ⟨rfl, k2, u2⟩
        exact ⟨_, rfl, ⟨k2, U.out.trans u2⟩, rfl, trivial⟩
      · go_simp
        exact ⟨_, rfl, hw, rfl, trivial⟩
      · have h : us 25 = lookV B (B + 1) b2 := hd.1 rfl
        obtain ⟨k, u⟩ := hw
        have LK := Lib.hid (look0 k 0 0 357368 (by omega))
        have U := Lib.hid u
        unfold lookV at h
        clear k u
        go_simp
        refine LK.out.mono ?_
        rintro e w2 ⟨rfl, k2, u2⟩
        exact ⟨_, rfl, ⟨k2, U.out.trans u2⟩, rfl, trivial⟩
      · go_simp
        exact ⟨_, rfl, hw, rfl, trivial⟩
      · go_simp
        exact ⟨_, rfl, hw, rfl, trivial⟩
      · have h : us 27 = lookV B (B + 1) b2 := hd.1 rfl
        have h2 : us 28 = .int .i64 225 := hd.2.1 rfl
        obtain ⟨k, u⟩ := hw
        have LK := Lib.hid (look0 k 225 130 307030 (by omega))
        have U := Lib.hid u
        unfold lookV at h
        clear k u
        go_simp
        refine LK.out.mono ?_
        rintro e w2 ⟨rfl, k2, u2⟩
        exact ⟨_, rfl, ⟨k2, U.out.trans u2⟩, rfl, trivial⟩
      · have c := hw.1.facts.2.1
        go_simp
        exact ⟨_, rfl, hw, rfl, trivial⟩
      · have h : us 30 = .int .i64 5 := hd.1 rfl
        go_simp
        exact ⟨_, rfl, hw, rfl, trivial⟩
      · have h : us 24 = .int .i64 306900 := hd.1 rfl
        go_simp
        exact ⟨_, rfl, hw, by first | rfl | exact h, trivial⟩
      · have h : us 26 = .int .i64 357368 := hd.1 rfl
        go_simp
        exact ⟨_, rfl, hw, by first | rfl | exact h, trivial⟩
      · have h : us 29 = .int .i64 307030 := hd.1 rfl
        go_simp
        exact ⟨_, rfl, hw, by first | rfl | exact h, trivial⟩
      · have h : us 31 = .int .i64 6 := hd.1 rfl
        go_simp
        exact ⟨_, rfl, hw, by first | rfl | exact h, trivial⟩
    · intro us w' hw ha
      obtain ⟨_, _, _, _, _, _, _, _, _, _, h7, h8, h9, h10, _⟩ := ha
      have e7 : us 7 = .int .i64 306900 := h7
      have e8 : us 8 = .int .i64 357368 := h8
      have e9 : us 9 = .int .i64 307030 := h9
      have e10 : us 10 = .int .i64 6 := h10
      have REL : Hid (us 7 = .int .i64 306900 ∧ us 8 = .int .i64 357368 ∧ us 9 = .int .i64 307030 ∧ us 10 = .int .i64 6 ∧ Sw w' g B (B + 1) b2 s ∧ Upd W4 b2 w') := ⟨e7, e8, e9, e10, hw⟩
      clear h7 h8 h9 h10 e7 e8 e9 e10 hw
      simp only [fill, List.filterMap_cons, List.filterMap_nil, List.contains_cons, List.contains_nil, Nat.zero_add, Nat.reduceAdd, Nat.reduceBEq, Bool.or_false, Bool.or_true, Bool.false_or, Bool.true_or, Bool.or_self, Bool.false_eq_true, if_true, if_false]
      go_wp2_with fail
      go_meet
      exact REL.out
  case rest =>
    obtain ⟨rfl, rfl, rfl, rfl, sw, u⟩ := hcut
    have S6 := Lib.hid sw
    have C6 := Lib.hid (u.out CB4.out hb2w.out)
    obtain ⟨p0, p1, p2, pg, pf⟩ := sw.facts
    have LT := Lib.hid (late0 sw.p hc)
    have hBg : B ≠ g := by omega
    have hBg1 : B + 1 ≠ g := by omega
    have hb2g : b2 ≠ g := fun e => sw.ng e.symm
    clear sw u S4 CB4
    go_wp2_with fail
    refine LT.out.mono ?_
    rintro e w7 ⟨rfl, hb7⟩
    have sw7 := S6.out.kept hb7
    have C7 := Lib.hid (C6.out.trans (hb7.mono C6.out.size))
    obtain ⟨p0, p1, p2, pg, pf⟩ := sw7.facts
    have c2 : w7.cell? ⟨g, 2, none⟩ = some (.int .u8 s.control) := sw7.p.cell 2
    rw [hc] at c2
    have c22 : w7.cell? ⟨g, 22, none⟩ = some (.int .i64 s.soon) := sw7.p.cell 22
    have f22 := sw7.p.frozen 22
    have f0 := sw7.p.frozen 0
    have z3 : (bits .and .u8 0 48 != 0) = false := by decide +kernel
    have P7 := Lib.hid sw7.p
    clear sw7 hb7 LT S6 C6
    go_wp2_with fail
    go_end0
    exact ⟨rfl, (P7.out.set_ 22 _).set_ 0 _, ((Upd.ofBelow C7.out g).set _ _).set _ _⟩
end Go.Proofs.YtniagcbajjmopaaGreat
