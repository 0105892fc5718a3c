/- step: at every state. -/
import Derived.Test.YtniagcbajjmopaaGreatPortsK
import Derived.WalkMore
namespace Go.Proofs.YtniagcbajjmopaaGreat
open Go.RowKit
set_option linter.unusedVariables false
set_option linter.unusedSimpArgs false
set_option maxRecDepth 100000

theorem NextIs.one {now T line h n n' : Int} (a : NextIs now T line h n) (b : NextIs now T line h n') : n = n' := by
  rcases a with ⟨ok, a1, a2, a3⟩ | ⟨no, _, e⟩
  · rcases b with ⟨_, b1, b2, b3⟩ | ⟨no, _⟩
    · by_cases hl : line < 0
      · have := a2 hl; have := b2 hl; omega
      · have := a3 (by omega); have := b3 (by omega); omega
    · exact absurd ok no
  · rcases b with ⟨ok, _⟩ | ⟨_, _, e'⟩
    · exact absurd ok no
    · omega
theorem NextIs.some_ (now T line h : Int) (h0 : 0 ≤ h) : ∃ n, NextIs now T line h n ∧ n ≤ max (now + 357368) (T + 1) := by
  by_cases ok : lineOk line h
  · obtain ⟨o0, o1, o2⟩ := ok
    by_cases hl : line < 0
    · by_cases e : (h - now) % 1364 = 0
      · exact ⟨now + 1364, Or.inl ⟨⟨o0, o1, o2⟩, by omega, fun _ => by omega, fun _ => by omega⟩, by omega⟩
      · exact ⟨now + (h - now) % 1364, Or.inl ⟨⟨o0, o1, o2⟩, by omega, fun _ => by omega, fun _ => by omega⟩, by omega⟩
    · by_cases e : (h + line * 1364 - now) % 357368 = 0
      · exact ⟨now + 357368, Or.inl ⟨⟨o0, o1, o2⟩, by omega, fun _ => by omega, fun _ => by omega⟩, by omega⟩
      · exact ⟨now + (h + line * 1364 - now) % 357368, Or.inl ⟨⟨o0, o1, o2⟩, by omega, fun _ => by omega, fun _ => by omega⟩, by omega⟩
  · exact ⟨T + 1, Or.inr ⟨ok, h0, rfl⟩, by omega⟩

variable {w w' : World} {g : Nat} {s : Pt}
def lookW (b0 b1 b2 : Nat) : Value := .func (.func 74) #[] #[.pointer (some ⟨b0, 0, none⟩), .pointer (some ⟨b1, 0, none⟩), .pointer (some ⟨b2, 0, none⟩)]
def atMost (b2 : Nat) (n : Int) (w : World) : Prop := ∃ x : Int, w.cell? ⟨b2, 0, none⟩ = some (.int .i64 x) ∧ x ≤ n
def spS (b0 b1 b2 : Nat) (lv T nB nT nA : Int) : Nat → Value → List Value → World → Prop
  | 0, v, _, _ => v = lookW b0 b1 b2
  | 1, v, _, _ => v = .int .i64 (lv + 1)
  | 2, v, _, w => v = .int .i64 nB ∧ atMost b2 nB w
  | 3, v, _, _ => v = lookW b0 b1 b2
  | 4, v, _, w => v = .int .i64 nT ∧ atMost b2 nT w
  | 5, v, _, _ => v = lookW b0 b1 b2
  | 6, v, _, _ => v = .int .i64 (lv + 1)
  | 7, v, _, w => v = .int .i64 nA ∧ atMost b2 nA w
  | 8, v, _, _ => v = .int .i64 T
  | 9, v, _, _ => v = .int .i64 (T + 1)
  | 10, v, _, _ => v = .int .i64 nB
  | 11, v, _, _ => v = .int .i64 nT
  | 12, v, _, _ => v = .int .i64 nA
  | 13, v, _, _ => v = .int .i64 (T + 1)
  | _, _, _, _ => True
def spEv (b2 : Nat) (w w' : World) : Prop := ∀ x : Int, w.cell? ⟨b2, 0, none⟩ = some (.int .i64 x) → ∃ y : Int, w'.cell? ⟨b2, 0, none⟩ = some (.int .i64 y) ∧ y ≤ x
theorem spEv_refl (b2 : Nat) (w : World) : spEv b2 w w := fun x h => ⟨x, h, Int.le_refl _⟩
theorem atMost.step {b2 : Nat} {n : Int} {w w' : World} (h : atMost b2 n w) (k : spEv b2 w w') : atMost b2 n w' := by
  obtain ⟨x, h1, h2⟩ := h
  obtain ⟨y, h3, h4⟩ := k x h1
  exact ⟨y, h3, Int.le_trans h4 h2⟩
theorem spS_mono {b0 b1 b2 : Nat} {lv T nB nT nA : Int} (i : Nat) (v : Value) (q : List Value) (w w' : World) (h : spS b0 b1 b2 lv T nB nT nA i v q w) (k : spEv b2 w w') : spS b0 b1 b2 lv T nB nT nA i v q w' := by
  match i, h with
  | 0, h => exact h
  | 1, h => exact h
  | 2, h => exact ⟨h.1, h.2.step k⟩
  | 3, h => exact h
  | 4, h => exact ⟨h.1, h.2.step k⟩
  | 5, h => exact h
  | 6, h => exact h
  | 7, h => exact ⟨h.1, h.2.step k⟩
  | 8, h => exact h
  | 9, h => exact h
  | 10, h => exact h
  | 11, h => exact h
  | 12, h => exact h
  | 13, h => exact h
  | i + 14, _ => exact True.intro
/-- In the statement that asks three times. -/
def spC (g b0 b1 b2 : Nat) (s : Pt) (T lo : Int) (W w : World) : Prop := ∃ x, Sx w g b0 b1 b2 s T x ∧ lo ≤ x ∧ x ≤ T ∧ Upd W b2 w
theorem spC.look {g b0 b1 b2 : Nat} {s : Pt} {T lo : Int} {W w : World} (h : spC g b0 b1 b2 s T lo W w) (h0 : 0 ≤ s.now) (h1 : s.now < lo) (h2 : T ≤ 281474976710656) (l hh n : Int) (k0 : 0 ≤ hh) (N : NextIs s.now T l hh n) (hn : lo ≤ n) :
    Calls Tryz.prog 74 #[.int .i64 l, .int .i64 hh, .pointer (some ⟨b0, 0, none⟩), .pointer (some ⟨b1, 0, none⟩), .pointer (some ⟨b2, 0, none⟩)] w
      (fun e w' => e = .returned (.int .i64 n) ∧ spC g b0 b1 b2 s T lo W w' ∧ atMost b2 n w' ∧ spEv b2 w w') := by
  obtain ⟨x, k, x0, x1, u⟩ := h
  refine (look_any k l hh h0 (by omega) h2 x1 (by omega) k0).mono ?_
  rintro e w' ⟨m, rfl, hm, k', u', _⟩
  have := N.one hm
  subst this
  refine ⟨rfl, ⟨_, k', by omega, by omega, u.trans u'⟩, ⟨_, k'.facts.2.2.1, by omega⟩, fun y hy => ⟨_, k'.facts.2.2.1, ?_⟩⟩
  rw [k.facts.2.2.1] at hy
  simp at hy
  omega

theorem Sx.mod {g b0 b1 b2 : Nat} {s s' : Pt} {T x : Int} {w : World} (h : Sx w g b0 b1 b2 s T x) {i : Nat} {v : Value} (hp : Po (w.setCell ⟨g, i, none⟩ v) g s') : Sx (w.setCell ⟨g, i, none⟩ v) g b0 b1 b2 s' T x :=
  ⟨hp, h.k0.other (fun e => h.m0 e.symm) _, h.k1.other (fun e => h.m1 e.symm) _, h.k2.other (fun e => h.ng e) _, h.n0, h.n1, h.ng, h.m0, h.m1⟩
/-- What an ordinary unit holds. -/
structure Fit (s : Pt) : Prop where
  n0 : 0 ≤ s.now
  n1 : s.now ≤ 281474976710656
  c0 : 0 ≤ s.control
  c1 : s.control ≤ 255
  d0 : 0 ≤ s.dot
  d1 : s.dot ≤ 65535
  l0 : 0 ≤ s.line
  l1 : s.line ≤ 65535
theorem irqH_pos {s : Pt} (F : Fit s) : 0 ≤ irqH s := by
  unfold irqH; have := F.d0; split <;> omega
theorem happen_is {s : Pt} {at_ m2 : Int} {eB eT eA eI k1 k128 : Bool} (hB : evB s at_ = eB) (hT : evT at_ = eT) (hA : evA s at_ = eA) (hI : evI s at_ = eI) (h1 : decide (s.control % 2 = 1) = k1) (h128 : decide (s.control / 128 % 2 = 1) = k128)
    {fl cm iq : Bool} {a0 a1 bz : Int} (e1 : fl = if eT then false else (s.flagged || eB)) (e2 : cm = (s.come || (eB && k128))) (e3 : a0 = if eA && k1 then s.say0 else s.auto0) (e4 : a1 = if eA && k1 then s.say1 else s.auto1) (e5 : bz = if eA && k1 then at_ + 4224 else s.busy) (e6 : iq = (s.irq || eI)) :
    ({ s with soon := m2, now := at_, flagged := fl, come := cm, auto0 := a0, auto1 := a1, busy := bz, irq := iq } : Pt) = { happen s at_ with soon := m2 } := by
  subst hB hT hA hI h1 h128 e1 e2 e3 e4 e5 e6
  rfl
def StepP (W : World) (g : Nat) (s : Pt) (T : Int) (e : Ending) (w' : World) : Prop :=
  e = .returned (.tuple #[]) ∧ ∃ at_ sn, s.now < at_ ∧ at_ ≤ T ∧ Po w' g { happen s at_ with soon := sn } ∧ ticks (at_ - s.now).toNat s = happen s at_ ∧ (∀ x, at_ < x → x < sn → quiet s x) ∧ Upd W g w'
set_option maxHeartbeats 16000000 in
theorem step_any (A : Po w g s) (F : Fit s) (T : Int) (hT : s.now < T) (hT1 : T ≤ 281474976710656) :
    Calls Tryz.prog 53 #[poP g, .int .i64 T] w (StepP w g s T) := by
  obtain ⟨nB, NB, mB⟩ := NextIs.some_ s.now T (behind s.over) 0 (by omega)
  obtain ⟨nT, NT, mT⟩ := NextIs.some_ s.now T 0 0 (by omega)
  obtain ⟨nA, NA, mA⟩ := NextIs.some_ s.now T (behind s.over) 130 (by omega)
  obtain ⟨nJ, NJ, mJ⟩ := NextIs.some_ s.now T (irqL s) (irqH s) (irqH_pos F)
  obtain ⟨nI, hnI⟩ : ∃ nI, nI = if wants s = true then nJ else T + 1 := ⟨_, rfl⟩
  have NN : Nexts s T nB nT nA nI := ⟨NB, NT, NA, by
    rw [hnI]
    by_cases hw : wants s = true
    · rw [if_pos hw, if_pos hw]; exact NJ
    · rw [if_neg hw, if_neg hw]⟩
  obtain ⟨lB, lT, lA, lI⟩ := NN.lt hT
  have lJ := NJ.after hT
  have n0 := F.n0
  have n1 := F.n1
  have hlv := behind_pos s.over
  obtain ⟨lv, hlv⟩ : ∃ lv, behind s.over - 1 = lv := ⟨_, rfl⟩
  have hbh : behind s.over = lv + 1 := by omega
  have hlv9 : lv = 224 ∨ lv = 239 := by rw [← hlv]; unfold behind; cases s.over <;> simp
  have c21 : w.cell? ⟨g, 21, none⟩ = some (.bool s.over) := A.cell 21
  have hlt := A.lt
  have HA := Lib.hid A
  have LS := Lib.hid (last_any s.over)
  rw [hlv] at LS
  rw [hbh] at NB NA
  have HNB := Lib.hid NB
  have HNT := Lib.hid NT
  have HNA := Lib.hid NA
  have HNJ := Lib.hid NJ
  have HNN := Lib.hid NN
  have HnI := Lib.hid hnI
  have HFF := Lib.hid F
  have HBH := Lib.hid hbh
  obtain ⟨ov, hov⟩ : ∃ ov, s.over = ov := ⟨_, rfl⟩
  rw [hov] at LS c21
  clear A NB NT NA NJ NN hnI F hlv hbh hov
  have elv : IntKind.i64.wrap (lv + 1) = lv + 1 := by rw [IntKind.wrap_i64]; omega
  go_enter Tryz.func53, Tryz.ntmps53
  go_upto_region 1 with (fail)
  obtain ⟨W2, hW⟩ : ∃ W2, W2 = (w.alloc (.cells #[poP g] 23)).alloc (.cells #[.int .i64 T] 3) := ⟨_, rfl⟩
  obtain ⟨B, hB⟩ : ∃ B, B = w.heap.size := ⟨_, rfl⟩
  have k0 : Blk W2 B 23 #[poP g] := by rw [hW, hB]; exact (Blk.new _ _ _).alloc _
  have k1 : Blk W2 (B + 1) 3 #[.int .i64 T] := by
    rw [hW, hB]
    have := Blk.new (w.alloc (.cells #[poP g] 23)) 3 #[.int .i64 T]
    simpa using this
  have a2 : Po W2 g s := by rw [hW]; exact (HA.out.alloc _).alloc _
  have cb : Below w.heap.size w W2 := by rw [hW]; exact belowA (belowA (Below.refl _ _) _) _
  rw [← hW, ← hB]
  have e0 := k0.cell 0
  have e1 := k1.cell 0
  have e21 := keepC cb c21
  have hgB : g < B := by omega
  have K0 := Lib.hid k0
  have K1 := Lib.hid k1
  have A2 := Lib.hid a2
  have CB := Lib.hid cb
  have HBs := Lib.hid hB
  clear hW k0 k1 a2 cb hB c21 HA
  go_wp2_with fail
  refine (LS.out _).mono ?_
  rintro e w3 ⟨rfl, hb3⟩
  have e0 := keepC hb3 e0
  have e1 := keepC hb3 e1
  have A3 := Lib.hid (A2.out.kept hb3)
  have K03 := Lib.hid (K0.out.kept hb3)
  have K13 := Lib.hid (K1.out.kept hb3)
  have CB3 := Lib.hid (CB.out.trans (hb3.mono CB.out.size))
  have b1lt := (K1.out.kept hb3).lt
  clear hb3 A2 K0 K1 CB LS e21
  go_upto_region 4 with (fail)
  obtain ⟨W4, hW⟩ : ∃ W4, W4 = w3.alloc (.cells #[.int .i64 T] 3) := ⟨_, rfl⟩
  obtain ⟨b2, hb2⟩ : ∃ b2, b2 = w3.heap.size := ⟨_, rfl⟩
  have sw : Sx W4 g B (B + 1) b2 s T T := by
    have hlt3 := A3.out.lt
    refine ⟨?_, ?_, ?_, ?_, by omega, by omega, by omega, by omega, by omega⟩
    · rw [hW]; exact A3.out.alloc _
    · rw [hW]; exact K03.out.alloc _
    · rw [hW]; exact K13.out.alloc _
    · rw [hW, hb2]; exact Blk.new _ _ _
  have CB4 : Hid (Below w.heap.size w W4) := by rw [hW]; exact belowA CB3.out _
  have hb2w : Hid (w.heap.size ≤ b2) := by rw [hb2]; exact CB3.out.size
  rw [← hW, ← hb2]
  have swd := sw.kept (Below.refl W4.heap.size W4).drew
  obtain ⟨p0, p1, p2, pg, pf⟩ := swd.facts
  have S4 := Lib.hid swd
  clear hW hb2 sw swd A3 K03 K13 CB3 e0 e1 b1lt
  obtain ⟨lo, hlo⟩ : ∃ lo, min (min (min T nB) nT) nA = lo := ⟨_, rfl⟩
  have lo0 : s.now < lo := by omega
  have eT : IntKind.i64.wrap (T + 1) = T + 1 := by rw [IntKind.wrap_i64]; omega
  go_cut [7, 8, 9, 10] from 22 to 31 (fun s7 s8 s9 s10 wx => s7 = .int .i64 nB ∧ s8 = .int .i64 nT ∧ s9 = .int .i64 nA ∧ s10 = .int .i64 (T + 1) ∧ Sx wx g B (B + 1) b2 s T lo ∧ Upd W4 b2 wx)
  case first =>
    refine wp_region_rel (C := spC g B (B + 1) b2 s T lo W4) (S := spS B (B + 1) b2 lv T nB nT nA) (Ev := spEv b2) (by kernel_rfl) (by kernel_rfl) spS_mono ?_ ?_ ?_
    · exact ⟨T, S4.out, by omega, by omega, (Upd.refl _ _).drew⟩
    · simp only [stepsOf]
      refine ⟨fun us w' hw hd => stepOf_plain rfl ?_, fun us w' hw hd => stepOf_plain rfl ?_, fun us w' hw hd => stepOf_plain rfl ?_, fun us w' hw hd => stepOf_plain rfl ?_, fun us w' hw hd => stepOf_plain rfl ?_, fun us w' hw hd => stepOf_plain rfl ?_, fun us w' hw hd => stepOf_plain rfl ?_, fun us w' hw hd => stepOf_plain rfl ?_, fun us w' hw hd => stepOf_plain rfl ?_, fun us w' hw hd => stepOf_plain rfl ?_, fun us w' hw hd => stepOf_plain rfl ?_, fun us w' hw hd => stepOf_plain rfl ?_, fun us w' hw hd => stepOf_plain rfl ?_, fun us w' hw hd => stepOf_plain rfl ?_, trivial⟩
      all_goals simp only [fill, List.filterMap_cons, List.filterMap_nil]
      · go_simp
        exact ⟨_, rfl, hw, rfl, spEv_refl _ _⟩
      · go_simp
        exact ⟨_, rfl, hw, rfl, spEv_refl _ _⟩
      · have h : us 22 = lookW B (B + 1) b2 := hd.1 rfl
        have h2 : us 23 = .int .i64 (lv + 1) := hd.2.1 rfl
        have LK := Lib.hid (hw.look n0 lo0 hT1 (lv + 1) 0 nB (by omega) HNB.out (by omega))
        unfold lookW at h
        go_simp
        refine LK.out.mono ?_
        rintro e w2 ⟨rfl, k2, u2, v2⟩
        exact ⟨_, rfl, k2, ⟨rfl, u2⟩, v2⟩
      · go_simp
        exact ⟨_, rfl, hw, rfl, spEv_refl _ _⟩
      · have h : us 25 = lookW B (B + 1) b2 := hd.1 rfl
        have LK := Lib.hid (hw.look n0 lo0 hT1 0 0 nT (by omega) HNT.out (by omega))
        unfold lookW at h
        go_simp
        refine LK.out.mono ?_
        rintro e w2 ⟨rfl, k2, u2, v2⟩
        exact ⟨_, rfl, k2, ⟨rfl, u2⟩, v2⟩
      · go_simp
        exact ⟨_, rfl, hw, rfl, spEv_refl _ _⟩
      · go_simp
        exact ⟨_, rfl, hw, rfl, spEv_refl _ _⟩
      · have h : us 27 = lookW B (B + 1) b2 := hd.1 rfl
        have h2 : us 28 = .int .i64 (lv + 1) := hd.2.1 rfl
        have LK := Lib.hid (hw.look n0 lo0 hT1 (lv + 1) 130 nA (by omega) HNA.out (by omega))
        unfold lookW at h
        go_simp
        refine LK.out.mono ?_
        rintro e w2 ⟨rfl, k2, u2, v2⟩
        exact ⟨_, rfl, k2, ⟨rfl, u2⟩, v2⟩
      · obtain ⟨x, k, x0, x1, u⟩ := hw
        have c := k.facts.2.1
        have HW : Hid (spC g B (B + 1) b2 s T lo W4 w') := ⟨x, k, x0, x1, u⟩
        clear k u
        go_simp
        exact ⟨_, rfl, HW.out, rfl, spEv_refl _ _⟩
      · have h : us 30 = .int .i64 T := hd.1 rfl
        go_simp
        exact ⟨_, rfl, hw, rfl, spEv_refl _ _⟩
      · have h : us 24 = .int .i64 nB := (hd.1 rfl).1
        go_simp
        exact ⟨_, rfl, hw, by first | rfl | exact h, spEv_refl _ _⟩
      · have h : us 26 = .int .i64 nT := (hd.1 rfl).1
        go_simp
        exact ⟨_, rfl, hw, by first | rfl | exact h, spEv_refl _ _⟩
      · have h : us 29 = .int .i64 nA := (hd.1 rfl).1
        go_simp
        exact ⟨_, rfl, hw, by first | rfl | exact h, spEv_refl _ _⟩
      · have h : us 31 = .int .i64 (T + 1) := hd.1 rfl
        go_simp
        exact ⟨_, rfl, hw, by first | rfl | exact h, spEv_refl _ _⟩
    · intro us w' hw ha
      obtain ⟨_, _, q2, _, q4, _, _, q7, _, _, h7, h8, h9, h10, _⟩ := ha
      have e7 : us 7 = .int .i64 nB := h7
      have e8 : us 8 = .int .i64 nT := h8
      have e9 : us 9 = .int .i64 nA := h9
      have e10 : us 10 = .int .i64 (T + 1) := h10
      obtain ⟨x, k, x0, x1, u⟩ := hw
      have cx := k.facts.2.2.1
      obtain ⟨y1, z1, z2⟩ := q2.2
      obtain ⟨y3, z3, z4⟩ := q4.2
      obtain ⟨y5, z5, z6⟩ := q7.2
      rw [cx] at z1 z3 z5
      simp only [Option.some.injEq, Value.int.injEq, true_and] at z1 z3 z5
      have hx : x = lo := by omega
      subst hx
      have REL : Hid (us 7 = .int .i64 nB ∧ us 8 = .int .i64 nT ∧ us 9 = .int .i64 nA ∧ us 10 = .int .i64 (T + 1) ∧ Sx w' g B (B + 1) b2 s T x ∧ Upd W4 b2 w') := ⟨e7, e8, e9, e10, k, u⟩
      clear h7 h8 h9 h10 e7 e8 e9 e10 k u cx q2 q4 q7 z1 z3 z5
      simp only [fill, List.filterMap_cons, List.filterMap_nil, List.contains_cons, List.contains_nil, Nat.zero_add, Nat.reduceAdd, Nat.reduceBEq, Bool.or_false, Bool.or_true, Bool.false_or, Bool.true_or, Bool.or_self, Bool.false_eq_true, if_true, if_false]
      go_wp2_with fail
      go_meet
      exact REL.out
  case rest =>
    obtain ⟨rfl, rfl, rfl, rfl, sw, u⟩ := hcut
    have S6 := Lib.hid sw
    have C6 := Lib.hid (u.out CB4.out hb2w.out)
    obtain ⟨at_, hat⟩ : ∃ at_, min lo nI = at_ := ⟨_, rfl⟩
    have hato : atOf T nB nT nA nI = at_ := by unfold atOf; rw [hlo, hat]
    have HAT := Lib.hid hato
    have at0 : s.now < at_ := by omega
    have at1 : at_ ≤ T := by omega
    have atI : at_ ≤ nI := by omega
    obtain ⟨wt, hwt⟩ : ∃ wt, wants s = wt := ⟨_, rfl⟩
    have HWT := Lib.hid hwt
    have LT := Lib.hid (late_any sw.p HFF.out.c0 HFF.out.c1 HFF.out.d0 HFF.out.d1 HFF.out.l0 HFF.out.l1)
    rw [hwt] at LT
    have hnI := HnI.out
    rw [hwt] at hnI
    obtain ⟨iL, hiL⟩ : ∃ iL, irqL s = iL := ⟨_, rfl⟩
    obtain ⟨iH, hiH⟩ : ∃ iH, irqH s = iH := ⟨_, rfl⟩
    have iH0 : 0 ≤ iH := by rw [← hiH]; exact irqH_pos HFF.out
    have NJ := HNJ.out
    rw [hiL, hiH] at NJ LT
    have HNJ2 := Lib.hid NJ
    have HBg : B ≠ g := by omega
    have HBg1 : B + 1 ≠ g := by omega
    have hb2g : b2 ≠ g := fun e => sw.ng e.symm
    have lol : lo ≤ T := by omega
    obtain ⟨p0, p1, p2, pg, pf⟩ := sw.facts
    clear sw u S4 CB4 hato hwt HnI NJ hiL hiH HNB HNT HNA HNJ elv eT hlv9
    go_wp2_with fail
    refine LT.out.mono ?_
    rintro e w7 ⟨rfl, hb7⟩
    have sw7 := S6.out.kept hb7
    have C7 := Lib.hid (C6.out.trans (hb7.mono C6.out.size))
    obtain ⟨p0, p1, p2, pg, pf⟩ := sw7.facts
    have S7 := Lib.hid sw7
    clear hb7 LT S6 C6
    go_upto_if 38 with (fail)
    go_cut [10] from 38 to 42 (fun s10 wx => s10 = .int .i64 nI ∧ Sx wx g B (B + 1) b2 s T at_ ∧ Upd w7 b2 wx)
    case first =>
      cases wt
      · rw [if_neg (by decide)] at hnI
        have hl : lo = at_ := by omega
        have S8 : Hid (Sx w7 g B (B + 1) b2 s T at_) := by rw [← hl]; exact sw7
        subst hnI
        clear sw7 S7
        go_wp2_with fail
        go_meet
        exact ⟨rfl, S8.out, Upd.refl _ _⟩
      · rw [if_pos rfl] at hnI
        have LK := Lib.hid (look_any sw7 iL iH n0 hT hT1 lol lo0 iH0)
        clear sw7
        go_wp2_with fail
        refine LK.out.mono ?_
        rintro e w8 ⟨m, rfl, hm, k8, u8, _⟩
        have := HNJ2.out.one hm
        subst this
        subst hnI
        rw [hat] at k8
        have K8 := Lib.hid k8
        have U8 := Lib.hid u8
        clear k8 u8 hm
        go_wp2_with fail
        go_meet
        exact ⟨rfl, K8.out, U8.out⟩
    case rest =>
      obtain ⟨rfl, sw, u⟩ := hcut
      clear hnI HNJ2
      have C8 := Lib.hid (u.out C7.out hb2w.out)
      have LB := Lib.hid (⟨sw.k0.lt, sw.k1.lt, sw.k2.lt⟩ : B < wc.heap.size ∧ B + 1 < wc.heap.size ∧ b2 < wc.heap.size)
      obtain ⟨p0, p1, p2, pg, pf⟩ := sw.facts
      have P8 := Lib.hid sw.p
      have S8 := Lib.hid sw
      have c22 : wc.cell? ⟨g, 22, none⟩ = some (.int .i64 s.soon) := sw.p.cell 22
      have f22 := sw.p.frozen 22
      clear sw u S7 C7
      go_upto_region 8 with (fail)
      obtain ⟨W8, hW8⟩ : ∃ W8, W8 = wc := ⟨_, rfl⟩
      rw [← hW8] at p0 p1 p2 pg pf P8 S8 c22 f22 C8 LB ⊢
      clear hW8
      go_cut [] from 43 to 49 (fun wx => ∃ m, m = min (min nB nT) nA ∧ wx = W8.setCell ⟨g, 22, none⟩ (.int .i64 m))
      case first =>
        go_wp2_with fail
        all_goals
          go_meet
          exact ⟨_, by omega, rfl⟩
      case rest =>
        obtain ⟨m, hm, rfl⟩ := hcut
        have S9 : Hid (Sx (W8.setCell ⟨g, 22, none⟩ (.int .i64 m)) g B (B + 1) b2 { s with soon := m } T at_) := S8.out.mod (S8.out.p.set_ 22 (.int .i64 m))
        have U9 := Lib.hid ((Upd.refl W8 g).set 22 (.int .i64 m))
        obtain ⟨W9, hW9⟩ : ∃ W9, W9 = W8.setCell ⟨g, 22, none⟩ (.int .i64 m) := ⟨_, rfl⟩
        rw [← hW9] at S9 U9 ⊢
        clear hW9 p0 p1 p2 pg pf P8 S8 c22 f22
        obtain ⟨p0, p1, p2, pg, pf⟩ := S9.out.facts
        have c2 : W9.cell? ⟨g, 2, none⟩ = some (.int .u8 s.control) := S9.out.p.cell 2
        have c22 : W9.cell? ⟨g, 22, none⟩ = some (.int .i64 m) := S9.out.p.cell 22
        have f22 := S9.out.p.frozen 22
        obtain ⟨y1, _, _, y48, y128⟩ := bit_and s.control HFF.out.c0 HFF.out.c1
        obtain ⟨cc, hcc⟩ : ∃ cc, s.control = cc := ⟨_, rfl⟩
        obtain ⟨k1, hk1⟩ : ∃ k, decide (cc % 2 = 1) = k := ⟨_, rfl⟩
        obtain ⟨k128, hk128⟩ : ∃ k, decide (cc / 128 % 2 = 1) = k := ⟨_, rfl⟩
        have hw48 : decide (cc / 16 % 2 = 1 ∨ cc / 32 % 2 = 1) = wt := by rw [← hcc]; exact HWT.out
        rw [hcc] at c2 y1 y48 y128
        rw [hw48] at y48
        rw [hk1] at y1
        rw [hk128] at y128
        have HCC := Lib.hid hcc
        have HK1 := Lib.hid hk1
        have HK128 := Lib.hid hk128
        clear hcc hk1 hk128 hw48
        go_upto_region 9 with (fail)
        obtain ⟨q60, hq60⟩ : ∃ q, decide (nI ≤ T ∨ wt = true) = q := ⟨_, rfl⟩
        go_cut [60] from 50 to 60 (fun s60 wx => s60 = .bool q60 ∧ W9 = wx)
        case first =>
          by_cases hi : nI ≤ T
          · have h : q60 = true := by rw [← hq60]; simp [hi]
            clear hq60
            go_wp2_with fail
            go_meet
            exact ⟨by rw [h], rfl⟩
          · have h : q60 = wt := by rw [← hq60]; simp [hi]
            clear hq60
            go_wp2_with fail
            go_meet
            exact ⟨by rw [h], rfl⟩
        case rest =>
        obtain ⟨rfl, rfl⟩ := hcut
        have hso : soonOf s T nB nT nA nI = if q60 = true then min m nI else m := by
          unfold soonOf
          rw [HWT.out, ← hm, ← hq60]
          by_cases hi : nI ≤ T ∨ wt = true
          · rw [if_pos hi, if_pos (decide_eq_true hi)]
          · rw [if_neg hi, decide_eq_false hi, if_neg (by decide)]
        have HSO := Lib.hid hso
        clear hso hm hq60
        go_upto_if 60 with (fail)
        go_cut [] from 61 to 69 (fun wx => ∃ m2, m2 = soonOf s T nB nT nA nI ∧ Sx wx g B (B + 1) b2 { s with soon := m2 } T at_ ∧ Upd W9 g wx)
        case first =>
          cases q60
          · have hso := HSO.out
            rw [if_neg (by decide)] at hso
            have HSO2 := Lib.hid hso
            clear hso HSO
            go_wp2_with fail
            go_meet
            exact ⟨m, HSO2.out.symm, S9.out, Upd.refl _ _⟩
          · have hso := HSO.out
            rw [if_pos rfl] at hso
            have HSO2 := Lib.hid hso
            clear hso HSO
            have PUT : ∀ y, Hid (Sx ((W9.setCell ⟨g, 22, none⟩ (.int .i64 y)).drew) g B (B + 1) b2 { s with soon := y } T at_ ∧ Upd W9 g ((W9.setCell ⟨g, 22, none⟩ (.int .i64 y)).drew)) := fun y =>
              ⟨(S9.out.mod (s' := { s with soon := y }) (S9.out.p.set_ 22 (.int .i64 y))).kept (Below.refl _ _).drew, ((Upd.refl _ _).set _ _).drew⟩
            by_cases hmi : nI < m
            · have hm2 : min m nI = nI := by omega
              rw [hm2] at HSO2
              go_wp2_with fail
              go_region_with (fail)
              all_goals
                go_wp2_with fail
                go_meet
                exact ⟨_, HSO2.out.symm, PUT _⟩
            · have hm2 : min m nI = m := by omega
              rw [hm2] at HSO2
              have hmi2 : m ≤ nI := by omega
              go_wp2_with fail
              go_region_with (fail)
              all_goals
                go_wp2_with fail
                go_meet
                exact ⟨_, HSO2.out.symm, PUT _⟩
        case rest =>
          obtain ⟨m2, hm2, sx, ux⟩ := hcut
          have HM2 := Lib.hid hm2
          have UT : Hid (Upd w g wc) := ((Upd.ofBelow C8.out g).trans U9.out).trans ux
          have S10 := Lib.hid sx
          obtain ⟨eB, hB⟩ : ∃ q : Bool, decide (at_ = nB) = q := ⟨_, rfl⟩
          obtain ⟨eT, hT'⟩ : ∃ q : Bool, decide (at_ = nT) = q := ⟨_, rfl⟩
          obtain ⟨eA, hA⟩ : ∃ q : Bool, decide (at_ = nA) = q := ⟨_, rfl⟩
          obtain ⟨eI, hI⟩ : ∃ q : Bool, decide (at_ = nI) = q := ⟨_, rfl⟩
          have tB : (at_ == nB) = eB := hB
          have tT : (at_ == nT) = eT := hT'
          have tA : (at_ == nA) = eA := hA
          have tI : (at_ == nI) = eI := hI
          have HEV := Lib.hid (⟨hB, hT', hA, hI⟩ : decide (at_ = nB) = eB ∧ decide (at_ = nT) = eT ∧ decide (at_ = nA) = eA ∧ decide (at_ = nI) = eI)
          obtain ⟨p0, p1, p2, pg, pf⟩ := sx.facts
          have f0 := sx.p.frozen 0
          clear hm2 sx ux S9 U9 C8 HSO hB hT' hA hI c22 f22 LB c2
          obtain ⟨W10, hW10⟩ : ∃ W10, W10 = wc := ⟨_, rfl⟩
          rw [← hW10] at p0 p1 p2 pg pf f0 UT S10 ⊢
          clear hW10
          go_upto_if 76 with (fail)
          have S11 : Hid (Sx (W10.setCell ⟨g, 0, none⟩ (.int .i64 at_)) g B (B + 1) b2 { s with soon := m2, now := at_ } T at_) := S10.out.mod (S10.out.p.set_ 0 (.int .i64 at_))
          have U11 := Lib.hid (UT.out.set 0 (.int .i64 at_))
          obtain ⟨W11, hW11⟩ : ∃ W11, W11 = W10.setCell ⟨g, 0, none⟩ (.int .i64 at_) := ⟨_, rfl⟩
          rw [← hW11] at S11 U11 ⊢
          clear hW11 p0 p1 p2 pg pf f0 S10 UT
          go_cut [] from 77 to 94 (fun wx => ∃ fl cm, fl = (s.flagged || eB) ∧ cm = (s.come || (eB && k128)) ∧ Sx wx g B (B + 1) b2 { s with soon := m2, now := at_, flagged := fl, come := cm } T at_ ∧ Upd W11 g wx)
          case first =>
            cases eB
            · go_wp2_with fail
              go_meet
              exact ⟨s.flagged, s.come, by simp, by simp, S11.out, Upd.refl _ _⟩
            · obtain ⟨p0, p1, p2, pg, pf⟩ := S11.out.facts
              have c10 : W11.cell? ⟨g, 10, none⟩ = some (.bool s.flagged) := S11.out.p.cell 10
              have f10 := S11.out.p.frozen 10
              go_upto_region 14 with (fail)
              have S13 : Hid (Sx (W11.setCell ⟨g, 10, none⟩ (.bool true)) g B (B + 1) b2 { s with soon := m2, now := at_, flagged := true } T at_) := S11.out.mod (S11.out.p.set_ 10 (.bool true))
              have U13 := Lib.hid ((Upd.refl W11 g).set 10 (.bool true))
              obtain ⟨W13, hW13⟩ : ∃ W13, W13 = W11.setCell ⟨g, 10, none⟩ (.bool true) := ⟨_, rfl⟩
              rw [← hW13] at S13 U13 ⊢
              clear hW13 p0 p1 p2 pg pf c10 f10
              obtain ⟨p0, p1, p2, pg, pf⟩ := S13.out.facts
              have c2 : W13.cell? ⟨g, 2, none⟩ = some (.int .u8 s.control) := S13.out.p.cell 2
              rw [HCC.out] at c2
              have c11 : W13.cell? ⟨g, 11, none⟩ = some (.bool s.come) := S13.out.p.cell 11
              have f11 := S13.out.p.frozen 11
              have PUT : ∀ y, Hid (Sx ((W13.setCell ⟨g, 11, none⟩ (.bool y)).drew) g B (B + 1) b2 { s with soon := m2, now := at_, flagged := true, come := y } T at_ ∧ Upd W11 g ((W13.setCell ⟨g, 11, none⟩ (.bool y)).drew)) := fun y =>
                ⟨(S13.out.mod (s' := { s with soon := m2, now := at_, flagged := true, come := y }) (S13.out.p.set_ 11 (.bool y))).kept (Below.refl _ _).drew, (U13.out.set 11 (.bool y)).drew⟩
              obtain ⟨cm0, hcm⟩ : ∃ q, s.come = q := ⟨_, rfl⟩
              have HCM := Lib.hid hcm
              rw [hcm] at c11
              clear hcm
              cases cm0
              · go_region_with (fail)
                all_goals
                  go_wp2_with fail
                  go_meet
                  exact ⟨true, k128, by simp, by rw [HCM.out]; simp, PUT _⟩
              · go_region_with (fail)
                all_goals
                  go_wp2_with fail
                  go_meet
                  exact ⟨true, true, by simp, by rw [HCM.out]; simp, PUT _⟩
          case rest =>
          obtain ⟨fl, cm, hfl, hcm, sx, ux⟩ := hcut
          have S14 := Lib.hid sx
          have U14 := Lib.hid (U11.out.trans ux)
          have HFL := Lib.hid hfl
          have HCM := Lib.hid hcm
          obtain ⟨p0, p1, p2, pg, pf⟩ := sx.facts
          clear sx ux hfl hcm S11 U11 tB
          obtain ⟨W14, hW14⟩ : ∃ W14, W14 = wc := ⟨_, rfl⟩
          rw [← hW14] at p0 p1 p2 pg pf S14 U14 ⊢
          clear hW14
          go_upto_if 97 with (fail)
          go_cut [] from 98 to 100 (fun wx => ∃ fl', fl' = (if eT then false else fl) ∧ Sx wx g B (B + 1) b2 { s with soon := m2, now := at_, flagged := fl', come := cm } T at_ ∧ Upd W14 g wx)
          case first =>
            cases eT
            · go_wp2_with fail
              go_meet
              exact ⟨fl, by simp, S14.out, Upd.refl _ _⟩
            · have c10 : W14.cell? ⟨g, 10, none⟩ = some (.bool fl) := S14.out.p.cell 10
              have f10 := S14.out.p.frozen 10
              go_wp2_with fail
              go_meet
              exact ⟨false, by simp, S14.out.mod (s' := { s with soon := m2, now := at_, flagged := false, come := cm }) (S14.out.p.set_ 10 (.bool false)), (Upd.refl _ _).set _ _⟩
          case rest =>
          obtain ⟨fl', hfl, sx, ux⟩ := hcut
          have S15 := Lib.hid sx
          have U15 := Lib.hid (U14.out.trans ux)
          have HFL2 := Lib.hid hfl
          obtain ⟨p0, p1, p2, pg, pf⟩ := sx.facts
          have c2 : wc.cell? ⟨g, 2, none⟩ = some (.int .u8 s.control) := sx.p.cell 2
          rw [HCC.out] at c2
          clear sx ux hfl S14 U14 tT
          obtain ⟨W15, hW15⟩ : ∃ W15, W15 = wc := ⟨_, rfl⟩
          rw [← hW15] at p0 p1 p2 pg pf c2 S15 U15 ⊢
          clear hW15
          go_upto_region 17 with (fail)
          go_cut [111] from 101 to 111 (fun s111 wx => s111 = .bool (eA && k1) ∧ W15 = wx)
          case first =>
            cases eA
            · go_wp2_with fail
              go_meet
              exact ⟨rfl, rfl⟩
            · go_wp2_with fail
              go_meet
              exact ⟨by simp, rfl⟩
          case rest =>
          obtain ⟨rfl, rfl⟩ := hcut
          obtain ⟨eK, hK⟩ : ∃ q, (eA && k1) = q := ⟨_, rfl⟩
          have HEK := Lib.hid hK
          rw [hK]
          clear hK tA
          go_upto_if 111 with (fail)
          go_cut [] from 112 to 123 (fun wx => ∃ a0 a1 bz, a0 = (if eK then s.say0 else s.auto0) ∧ a1 = (if eK then s.say1 else s.auto1) ∧ bz = (if eK then at_ + 4224 else s.busy) ∧
            Sx wx g B (B + 1) b2 { s with soon := m2, now := at_, flagged := fl', come := cm, auto0 := a0, auto1 := a1, busy := bz } T at_ ∧ Upd W15 g wx)
          case first =>
            cases eK
            · go_wp2_with fail
              go_meet
              exact ⟨s.auto0, s.auto1, s.busy, rfl, rfl, rfl, S15.out, Upd.refl _ _⟩
            · have d13 : W15.cell? ⟨g, 13, none⟩ = some (.int .u16 s.say0) := S15.out.p.cell 13
              have d14 : W15.cell? ⟨g, 14, none⟩ = some (.int .u16 s.say1) := S15.out.p.cell 14
              have d15 : W15.cell? ⟨g, 15, none⟩ = some (.int .u16 s.auto0) := S15.out.p.cell 15
              have d16 : W15.cell? ⟨g, 16, none⟩ = some (.int .u16 s.auto1) := S15.out.p.cell 16
              have f15 := S15.out.p.frozen 15
              have f16 := S15.out.p.frozen 16
              have f1 := S15.out.p.frozen 1
              have d1 : W15.cell? ⟨g, 1, none⟩ = some (.int .i64 s.busy) := S15.out.p.cell 1
              have ea : IntKind.i64.wrap (at_ + 4224) = at_ + 4224 := by rw [IntKind.wrap_i64]; omega
              have m1 := S15.out.mod (s' := { s with soon := m2, now := at_, flagged := fl', come := cm, auto0 := s.say0 }) (S15.out.p.set_ 15 (.int .u16 s.say0))
              have m2' := m1.mod (s' := { s with soon := m2, now := at_, flagged := fl', come := cm, auto0 := s.say0, auto1 := s.say1 }) (m1.p.set_ 16 (.int .u16 s.say1))
              have m3 := m2'.kept (Below.refl _ _).drew
              have m4 := m3.mod (s' := { s with soon := m2, now := at_, flagged := fl', come := cm, auto0 := s.say0, auto1 := s.say1, busy := at_ + 4224 }) (m3.p.set_ 1 (.int .i64 (at_ + 4224)))
              have n4 := m2'.mod (s' := { s with soon := m2, now := at_, flagged := fl', come := cm, auto0 := s.say0, auto1 := s.say1, busy := at_ + 4224 }) (m2'.p.set_ 1 (.int .i64 (at_ + 4224)))
              have n5 := n4.kept (Below.refl _ _).drew
              have M4 := Lib.hid m4
              have N5 := Lib.hid n5
              clear m1 m2' m3 m4 n4 n5
              go_wp2_with fail
              try go_region_with (fail)
              all_goals
                go_wp2_with fail
                go_meet
                first
                  | exact ⟨s.say0, s.say1, at_ + 4224, rfl, rfl, rfl, M4.out, ((((Upd.refl W15 g).set 15 _).set 16 _).drew).set 1 _⟩
                  | exact ⟨s.say0, s.say1, at_ + 4224, rfl, rfl, rfl, N5.out, ((((Upd.refl W15 g).set 15 _).set 16 _).set 1 _).drew⟩
          case rest =>
          obtain ⟨a0, a1, bz, ha0, ha1, hbz, sx, ux⟩ := hcut
          have S16 := Lib.hid sx
          have U16 := Lib.hid (U15.out.trans ux)
          obtain ⟨p0, p1, p2, pg, pf⟩ := sx.facts
          have c12 : wc.cell? ⟨g, 12, none⟩ = some (.bool s.irq) := sx.p.cell 12
          have f12 := sx.p.frozen 12
          have FIN : Hid (∀ iq, iq = (s.irq || eI) → ({ s with soon := m2, now := at_, flagged := fl', come := cm, auto0 := a0, auto1 := a1, busy := bz, irq := iq } : Pt) = { happen s at_ with soon := m2 } ∧ ticks (at_ - s.now).toNat s = happen s at_ ∧ ∀ x, at_ < x → x < m2 → quiet s x) := by
            intro iq hiq
            obtain ⟨_, _, t3, t4, t5, t6, t7, t8⟩ := HNN.out.step n0 hT
            rw [HAT.out] at t3 t4 t5 t6 t7 t8
            obtain ⟨v1, v2, v3, v4⟩ := HEV.out
            rw [v1] at t4
            rw [v2] at t5
            rw [v3] at t6
            rw [v4] at t7
            refine ⟨happen_is t4 t5 t6 t7 (k1 := k1) (k128 := k128) (by rw [HCC.out]; exact HK1.out) (by rw [HCC.out]; exact HK128.out) ?_ HCM.out (by rw [HEK.out]; exact ha0) (by rw [HEK.out]; exact ha1) (by rw [HEK.out]; exact hbz) hiq, t3, fun x x0 x1 => t8 x x0 (by rw [← HM2.out]; exact x1)⟩
            rw [HFL2.out, HFL.out]
          clear sx ux S15 U15 ha0 ha1 hbz c2
          obtain ⟨W16, hW16⟩ : ∃ W16, W16 = wc := ⟨_, rfl⟩
          rw [← hW16] at p0 p1 p2 pg pf c12 f12 S16 U16 ⊢
          clear hW16
          cases eI
          · go_wp2_with fail
            go_end0
            obtain ⟨e1, e2, e3⟩ := FIN.out s.irq (by simp)
            refine ⟨rfl, at_, m2, at0, at1, ?_, e2, e3, U16.out⟩
            rw [← e1]
            exact S16.out.p
          · go_wp2_with fail
            go_end0
            obtain ⟨e1, e2, e3⟩ := FIN.out true (by simp)
            refine ⟨rfl, at_, m2, at0, at1, ?_, e2, e3, U16.out.set _ _⟩
            rw [← e1]
            exact S16.out.p.set_ 12 (.bool true)
end Go.Proofs.YtniagcbajjmopaaGreat
