/- ports: Read of both, Pad out of range, Fast, loaded, what stays true. -/
import Derived.Test.YtniagcbajjmopaaGreatPortsRs
import Derived.Test.YtniagcbajjmopaaGreatPortsRy
import Derived.Test.YtniagcbajjmopaaGreatPortsRz
import Derived.Test.YtniagcbajjmopaaGreatPortsU
import Derived.Test.YtniagcbajjmopaaGreatPortsY
import Derived.Test.YtniagcbajjmopaaGreatPortsF
namespace Go.Proofs.YtniagcbajjmopaaGreat
open Go.RowKit
set_option linter.unusedVariables false
set_option linter.unusedSimpArgs false
set_option maxRecDepth 100000
section
variable {w : World} {g B : Nat} {s : Pt}
theorem PW.ofSays {v : Value} {e : Ending} {w' : World} (A : Po w g s) (h : Says w v e w') : PW w g s v e w' := ⟨h.1, A.kept h.2, Upd.ofBelow h.2 g⟩
theorem DW.ofSays {v : Value} {e : Ending} {w' : World} (A : Dp w B s) (h : Says w v e w') : DW w B s v e w' := ⟨h.1, A.kept h.2, Upd.ofBelow h.2 B⟩
theorem pad_lt {x : Int} (h0 : 0 ≤ x) (h1 : x ≤ 65535) : x / 32768 = 0 ∨ x / 32768 = 1 := by omega
theorem pad_mod {x : Int} (h0 : 0 ≤ x) (h1 : x ≤ 65535) : x / 32768 % 256 = x / 32768 := by omega
theorem readP_0 (o : Int) (s : Pt) : readP 16406 o s = ((o / 4 * 4 + (if s.held then s.say0 else s.shift0) / 32768, true), if s.held then s else { s with shift0 := s.shift0 * 2 % 65536 + 1 }) := rfl
theorem readP_1 (o : Int) (s : Pt) : readP 16407 o s = ((o / 32 * 32 + 28 + (if s.held then s.say1 else s.shift1) / 32768, true), if s.held then s else { s with shift1 := s.shift1 * 2 % 65536 + 1 }) := rfl
theorem readP_none {p o : Int} {s : Pt} (hp : p ≠ 16406 ∧ p ≠ 16407 ∧ p ≠ 16912 ∧ p ≠ 16913 ∧ p ≠ 16914 ∧ p ≠ 16915 ∧ p ≠ 16916 ∧ p ≠ 16917 ∧ p ≠ 16918 ∧ p ≠ 16919 ∧ p ≠ 16920 ∧ p ≠ 16921 ∧ p ≠ 16922 ∧ p ≠ 16923 ∧ p ≠ 16924 ∧ p ≠ 16925 ∧ p ≠ 16926 ∧ p ≠ 16927) : readP p o s = ((0, false), s) := by
  obtain ⟨h0, h1, h2, h3, h4, h5, h6, h7, h8, h9, h10, h11, h12, h13, h14, h15, h16, h17⟩ := hp
  unfold readP
  rw [if_neg h0, if_neg h1, if_neg h2, if_neg h3, if_neg h4, if_neg h5, if_neg (by omega)]
theorem read_gen (A : Po w g s) (F : Fit2 s) (p o : Int) (o0 : 0 ≤ o) (o1 : o ≤ 255) :
    Calls Tryz.prog 8 #[poP g, .int .u16 p, .int .u8 o] w (PW w g (readP p o s).2 (.tuple #[.int .u8 (readP p o s).1.1, .bool (readP p o s).1.2])) := by
  by_cases h0 : p = 16406
  · subst h0
    rw [readP_0]
    by_cases hh : s.held = true
    · rw [if_pos hh, if_pos hh]
      refine (readHeld_0 A hh o).mono fun e w' h => ?_
      rw [pad_mod F.a0 F.a1, padA_doc o _ o0 o1 (pad_lt F.a0 F.a1)] at h
      exact PW.ofSays A h
    · rw [if_neg hh, if_neg hh]
      replace hh : s.held = false := by simpa using hh
      refine (read_0 A hh F.g0 F.g1 o).mono fun e w' h => ?_
      rw [padA_doc o _ o0 o1 (pad_lt F.g0 F.g1)] at h
      exact h
  by_cases h1 : p = 16407
  · subst h1
    rw [readP_1]
    by_cases hh : s.held = true
    · rw [if_pos hh, if_pos hh]
      refine (readHeld_1 A hh o).mono fun e w' h => ?_
      rw [pad_mod F.b0 F.b1, padB_doc o _ o0 o1 (pad_lt F.b0 F.b1)] at h
      exact PW.ofSays A h
    · rw [if_neg hh, if_neg hh]
      replace hh : s.held = false := by simpa using hh
      refine (read_1 A hh F.h0 F.h1 o).mono fun e w' h => ?_
      rw [padB_doc o _ o0 o1 (pad_lt F.h0 F.h1)] at h
      exact h
  by_cases h2 : p = 16912
  · subst h2
    refine (read_nmi A o).mono fun e w' h => ?_
    rw [tookA_doc o _ o0 o1] at h
    exact h
  by_cases h3 : p = 16913
  · subst h3
    refine (read_irq A o).mono fun e w' h => ?_
    rw [tookB_doc o _ o0 o1] at h
    exact h
  by_cases h4 : p = 16914
  · subst h4
    exact (read_state A F.base.n0 F.base.n1 o o0 o1).mono fun e w' h => PW.ofSays A h
  by_cases h5 : p = 16915
  · subst h5
    exact (read_output A o).mono fun e w' h => PW.ofSays A h
  by_cases h6 : p = 16916
  · subst h6
    exact (read_w16916 A F o).mono fun e w' h => PW.ofSays A h
  by_cases h7 : p = 16917
  · subst h7
    exact (read_w16917 A F o).mono fun e w' h => PW.ofSays A h
  by_cases h8 : p = 16918
  · subst h8
    exact (read_w16918 A F o).mono fun e w' h => PW.ofSays A h
  by_cases h9 : p = 16919
  · subst h9
    exact (read_w16919 A F o).mono fun e w' h => PW.ofSays A h
  by_cases h10 : p = 16920
  · subst h10
    exact (read_w16920 A F o).mono fun e w' h => PW.ofSays A h
  by_cases h11 : p = 16921
  · subst h11
    exact (read_w16921 A F o).mono fun e w' h => PW.ofSays A h
  by_cases h12 : p = 16922
  · subst h12
    exact (read_w16922 A F o).mono fun e w' h => PW.ofSays A h
  by_cases h13 : p = 16923
  · subst h13
    exact (read_w16923 A F o).mono fun e w' h => PW.ofSays A h
  by_cases h14 : p = 16924
  · subst h14
    exact (read_w16924 A F o).mono fun e w' h => PW.ofSays A h
  by_cases h15 : p = 16925
  · subst h15
    exact (read_w16925 A F o).mono fun e w' h => PW.ofSays A h
  by_cases h16 : p = 16926
  · subst h16
    exact (read_w16926 A F o).mono fun e w' h => PW.ofSays A h
  by_cases h17 : p = 16927
  · subst h17
    exact (read_w16927 A F o).mono fun e w' h => PW.ofSays A h
  rw [readP_none ⟨h0, h1, h2, h3, h4, h5, h6, h7, h8, h9, h10, h11, h12, h13, h14, h15, h16, h17⟩]
  exact (read_none A p o ⟨h0, h1, h2, h3, h4, h5⟩ (by omega)).mono fun e w' h => PW.ofSays A h
theorem dread_any (A : Dp w B s) (F : Fit2 s) (p o : Int) (o0 : 0 ≤ o) (o1 : o ≤ 255) :
    Calls Tryz.prog 7 #[dpP B, .int .u16 p, .int .u8 o] w (DW w B (readP p o s).2 (.tuple #[.int .u8 (readP p o s).1.1, .bool (readP p o s).1.2])) := by
  by_cases h0 : p = 16406
  · subst h0
    rw [readP_0]
    by_cases hh : s.held = true
    · rw [if_pos hh, if_pos hh]
      exact dr_padH_0 A hh F.a0 F.a1 o o0 o1
    · rw [if_neg hh, if_neg hh]
      replace hh : s.held = false := by simpa using hh
      exact dr_pad_0 A hh F.g0 F.g1 o o0 o1
  by_cases h1 : p = 16407
  · subst h1
    rw [readP_1]
    by_cases hh : s.held = true
    · rw [if_pos hh, if_pos hh]
      exact dr_padH_1 A hh F.b0 F.b1 o o0 o1
    · rw [if_neg hh, if_neg hh]
      replace hh : s.held = false := by simpa using hh
      exact dr_pad_1 A hh F.h0 F.h1 o o0 o1
  by_cases h2 : p = 16912
  · subst h2
    exact dr_nmi A o o0 o1
  by_cases h3 : p = 16913
  · subst h3
    exact dr_irq A o o0 o1
  by_cases h4 : p = 16914
  · subst h4
    exact (dr_state A F.base.n0 F.base.n1 o o0 o1).mono fun e w' h => DW.ofSays A h
  by_cases h5 : p = 16915
  · subst h5
    exact (dr_output A o).mono fun e w' h => DW.ofSays A h
  by_cases h6 : p = 16916
  · subst h6
    exact (dr_w16916 A F o).mono fun e w' h => DW.ofSays A h
  by_cases h7 : p = 16917
  · subst h7
    exact (dr_w16917 A F o).mono fun e w' h => DW.ofSays A h
  by_cases h8 : p = 16918
  · subst h8
    exact (dr_w16918 A F o).mono fun e w' h => DW.ofSays A h
  by_cases h9 : p = 16919
  · subst h9
    exact (dr_w16919 A F o).mono fun e w' h => DW.ofSays A h
  by_cases h10 : p = 16920
  · subst h10
    exact (dr_w16920 A F o).mono fun e w' h => DW.ofSays A h
  by_cases h11 : p = 16921
  · subst h11
    exact (dr_w16921 A F o).mono fun e w' h => DW.ofSays A h
  by_cases h12 : p = 16922
  · subst h12
    exact (dr_w16922 A F o).mono fun e w' h => DW.ofSays A h
  by_cases h13 : p = 16923
  · subst h13
    exact (dr_w16923 A F o).mono fun e w' h => DW.ofSays A h
  by_cases h14 : p = 16924
  · subst h14
    exact (dr_w16924 A F o).mono fun e w' h => DW.ofSays A h
  by_cases h15 : p = 16925
  · subst h15
    exact (dr_w16925 A F o).mono fun e w' h => DW.ofSays A h
  by_cases h16 : p = 16926
  · subst h16
    exact (dr_w16926 A F o).mono fun e w' h => DW.ofSays A h
  by_cases h17 : p = 16927
  · subst h17
    exact (dr_w16927 A F o).mono fun e w' h => DW.ofSays A h
  rw [readP_none ⟨h0, h1, h2, h3, h4, h5, h6, h7, h8, h9, h10, h11, h12, h13, h14, h15, h16, h17⟩]
  exact (dr_none A p o ⟨h0, h1, h2, h3, h4, h5, h6, h7, h8, h9, h10, h11, h12, h13, h14, h15, h16, h17⟩).mono fun e w' h => DW.ofSays A h

theorem readP_like (p o : Int) (s : Pt) : ∃ a b x y, (readP p o s).2 = { s with flagged := a, irq := b, shift0 := x, shift1 := y } ∧ (x = s.shift0 ∨ x = s.shift0 * 2 % 65536 + 1) ∧ (y = s.shift1 ∨ y = s.shift1 * 2 % 65536 + 1) := by
  by_cases h0 : p = 16406
  · subst h0
    rw [readP_0]
    by_cases hh : s.held = true
    · rw [if_pos hh, if_pos hh]; exact ⟨_, _, _, _, rfl, Or.inl rfl, Or.inl rfl⟩
    · rw [if_neg hh, if_neg hh]; exact ⟨_, _, _, _, rfl, Or.inr rfl, Or.inl rfl⟩
  by_cases h1 : p = 16407
  · subst h1
    rw [readP_1]
    by_cases hh : s.held = true
    · rw [if_pos hh, if_pos hh]; exact ⟨_, _, _, _, rfl, Or.inl rfl, Or.inl rfl⟩
    · rw [if_neg hh, if_neg hh]; exact ⟨_, _, _, _, rfl, Or.inl rfl, Or.inr rfl⟩
  by_cases h2 : p = 16912
  · subst h2; exact ⟨_, _, _, _, rfl, Or.inl rfl, Or.inl rfl⟩
  by_cases h3 : p = 16913
  · subst h3; exact ⟨_, _, _, _, rfl, Or.inl rfl, Or.inl rfl⟩
  by_cases h4 : p = 16914
  · subst h4; exact ⟨_, _, _, _, rfl, Or.inl rfl, Or.inl rfl⟩
  by_cases h5 : p = 16915
  · subst h5; exact ⟨_, _, _, _, rfl, Or.inl rfl, Or.inl rfl⟩
  have e : (readP p o s).2 = s := by
    unfold readP
    rw [if_neg h0, if_neg h1, if_neg h2, if_neg h3, if_neg h4, if_neg h5]
    split <;> rfl
  rw [e]
  exact ⟨_, _, _, _, rfl, Or.inl rfl, Or.inl rfl⟩
/-- What stays true. -/
structure Good (s : Pt) : Prop where
  fit : Fit2 s
  soon : SoonOk s
  z0 : 0 ≤ s.busy
  z1 : s.busy ≤ s.now + 4224
theorem soon_zero {s : Pt} (h : s.soon = 0) (n0 : 0 ≤ s.now) : SoonOk s := fun t h1 h2 => by rw [h] at h2; omega
theorem good_zero : Good Pt.zero := by
  refine ⟨?_, soon_zero rfl (by simp [Pt.zero]), by simp [Pt.zero], by simp [Pt.zero]⟩
  constructor
  · constructor <;> simp [Pt.zero]
  all_goals simp [Pt.zero]
theorem Good.read (G : Good s) (p o : Int) : Good (readP p o s).2 ∧ (readP p o s).2.now = s.now := by
  obtain ⟨a, b, x, y, e, hx, hy⟩ := readP_like p o s
  rw [e]
  have g0 := G.fit.g0
  have g1 := G.fit.g1
  have h0 := G.fit.h0
  have h1 := G.fit.h1
  exact ⟨⟨⟨⟨G.fit.base.n0, G.fit.base.n1, G.fit.base.c0, G.fit.base.c1, G.fit.base.d0, G.fit.base.d1, G.fit.base.l0, G.fit.base.l1⟩, G.fit.f0, G.fit.f1, G.fit.o0, G.fit.o1, G.fit.w0, G.fit.w1, G.fit.q0, G.fit.q1, G.fit.p0, G.fit.p1, G.fit.d9, G.fit.l9, G.fit.a0, G.fit.a1, G.fit.b0, G.fit.b1, G.fit.c0, G.fit.c1, G.fit.e0, G.fit.e1, (show 0 ≤ x by omega), (show x ≤ 65535 by omega), (show 0 ≤ y by omega), (show y ≤ 65535 by omega)⟩, G.soon, G.z0, G.z1⟩, rfl⟩
theorem wrP_keeps (p v : Int) (s : Pt) : (wrP p v s).2.now = s.now ∧ (wrP p v s).2.busy = s.busy ∧ ((wrP p v s).2 = s ∨ (wrP p v s).2.soon = 0) := by
  unfold wrP
  by_cases h0 : p = 16406
  · rw [if_pos h0]
    show (holdF v { s with soon := 0 }).now = s.now ∧ (holdF v { s with soon := 0 }).busy = s.busy ∧ (_ ∨ (holdF v { s with soon := 0 }).soon = 0)
    unfold holdF
    split <;> exact ⟨rfl, rfl, Or.inr rfl⟩
  rw [if_neg h0]
  by_cases h1 : p = 16896
  · rw [if_pos h1]
    exact ⟨rfl, rfl, Or.inr rfl⟩
  rw [if_neg h1]
  by_cases h2 : p = 16897
  · rw [if_pos h2]
    exact ⟨rfl, rfl, Or.inr rfl⟩
  rw [if_neg h2]
  by_cases h3 : p = 16898
  · rw [if_pos h3]
    exact ⟨rfl, rfl, Or.inr rfl⟩
  rw [if_neg h3]
  by_cases h4 : p = 16899
  · rw [if_pos h4]
    exact ⟨rfl, rfl, Or.inr rfl⟩
  rw [if_neg h4]
  by_cases h5 : p = 16900
  · rw [if_pos h5]
    exact ⟨rfl, rfl, Or.inr rfl⟩
  rw [if_neg h5]
  by_cases h6 : p = 16901
  · rw [if_pos h6]
    exact ⟨rfl, rfl, Or.inr rfl⟩
  rw [if_neg h6]
  by_cases h7 : p = 16902
  · rw [if_pos h7]
    exact ⟨rfl, rfl, Or.inr rfl⟩
  rw [if_neg h7]
  by_cases h8 : p = 16903
  · rw [if_pos h8]
    exact ⟨rfl, rfl, Or.inr rfl⟩
  rw [if_neg h8]
  by_cases h9 : p = 16904
  · rw [if_pos h9]
    exact ⟨rfl, rfl, Or.inr rfl⟩
  rw [if_neg h9]
  by_cases h10 : p = 16905
  · rw [if_pos h10]
    exact ⟨rfl, rfl, Or.inr rfl⟩
  rw [if_neg h10]
  by_cases h11 : p = 16906
  · rw [if_pos h11]
    exact ⟨rfl, rfl, Or.inr rfl⟩
  rw [if_neg h11]
  by_cases h12 : p = 16909
  · rw [if_pos h12]
    exact ⟨rfl, rfl, Or.inr rfl⟩
  rw [if_neg h12]
  exact ⟨rfl, rfl, Or.inl rfl⟩
theorem Good.write (G : Good s) (p v : Int) (v0 : 0 ≤ v) (v1 : v ≤ 255) : Good (wrP p v s).2 ∧ (wrP p v s).2.now = s.now := by
  obtain ⟨e1, e2, e3⟩ := wrP_keeps p v s
  refine ⟨⟨wrP_fit G.fit p v v0 v1, ?_, by rw [e2]; exact G.z0, by rw [e2, e1]; exact G.z1⟩, e1⟩
  rcases e3 with e3 | e3
  · rw [e3]; exact G.soon
  · exact soon_zero e3 (by rw [e1]; exact G.fit.base.n0)
theorem Good.pad0 (G : Good s) (v : Int) (v0 : 0 ≤ v) (v1 : v ≤ 65535) : Good { s with say0 := v } :=
  ⟨⟨⟨G.fit.base.n0, G.fit.base.n1, G.fit.base.c0, G.fit.base.c1, G.fit.base.d0, G.fit.base.d1, G.fit.base.l0, G.fit.base.l1⟩, G.fit.f0, G.fit.f1, G.fit.o0, G.fit.o1, G.fit.w0, G.fit.w1, G.fit.q0, G.fit.q1, G.fit.p0, G.fit.p1, G.fit.d9, G.fit.l9, v0, v1, G.fit.b0, G.fit.b1, G.fit.c0, G.fit.c1, G.fit.e0, G.fit.e1, G.fit.g0, G.fit.g1, G.fit.h0, G.fit.h1⟩, G.soon, G.z0, G.z1⟩
theorem Good.pad1 (G : Good s) (v : Int) (v0 : 0 ≤ v) (v1 : v ≤ 65535) : Good { s with say1 := v } :=
  ⟨⟨⟨G.fit.base.n0, G.fit.base.n1, G.fit.base.c0, G.fit.base.c1, G.fit.base.d0, G.fit.base.d1, G.fit.base.l0, G.fit.base.l1⟩, G.fit.f0, G.fit.f1, G.fit.o0, G.fit.o1, G.fit.w0, G.fit.w1, G.fit.q0, G.fit.q1, G.fit.p0, G.fit.p1, G.fit.d9, G.fit.l9, G.fit.a0, G.fit.a1, v0, v1, G.fit.c0, G.fit.c1, G.fit.e0, G.fit.e1, G.fit.g0, G.fit.g1, G.fit.h0, G.fit.h1⟩, G.soon, G.z0, G.z1⟩
theorem Good.other (G : Good s) (ov cm : Bool) (so : Int) (h : SoonOk { s with over := ov, come := cm, soon := so }) : Good { s with over := ov, come := cm, soon := so } :=
  ⟨⟨⟨G.fit.base.n0, G.fit.base.n1, G.fit.base.c0, G.fit.base.c1, G.fit.base.d0, G.fit.base.d1, G.fit.base.l0, G.fit.base.l1⟩, G.fit.f0, G.fit.f1, G.fit.o0, G.fit.o1, G.fit.w0, G.fit.w1, G.fit.q0, G.fit.q1, G.fit.p0, G.fit.p1, G.fit.d9, G.fit.l9, G.fit.a0, G.fit.a1, G.fit.b0, G.fit.b1, G.fit.c0, G.fit.c1, G.fit.e0, G.fit.e1, G.fit.g0, G.fit.g1, G.fit.h0, G.fit.h1⟩, h, G.z0, G.z1⟩
/-- What time does. -/
structure Mid (s : Pt) : Prop where
  fit : Fit2 s
  z0 : 0 ≤ s.busy
  z1 : s.busy ≤ s.now + 4224
theorem Mid.tick (M : Mid s) (h : s.now + 1 ≤ 281474976710656) : Mid (tick s) := by
  have n0 := M.fit.base.n0
  have F := M.fit
  have b0 := M.z0
  have b1 := M.z1
  have ea : 0 ≤ (Proofs.YtniagcbajjmopaaGreat.tick s).auto0 ∧ (Proofs.YtniagcbajjmopaaGreat.tick s).auto0 ≤ 65535 := by
    show 0 ≤ (if _ then s.say0 else s.auto0) ∧ (if _ then s.say0 else s.auto0) ≤ 65535
    split
    · exact ⟨F.a0, F.a1⟩
    · exact ⟨F.c0, F.c1⟩
  have eb : 0 ≤ (Proofs.YtniagcbajjmopaaGreat.tick s).auto1 ∧ (Proofs.YtniagcbajjmopaaGreat.tick s).auto1 ≤ 65535 := by
    show 0 ≤ (if _ then s.say1 else s.auto1) ∧ (if _ then s.say1 else s.auto1) ≤ 65535
    split
    · exact ⟨F.b0, F.b1⟩
    · exact ⟨F.e0, F.e1⟩
  have ec : 0 ≤ (Proofs.YtniagcbajjmopaaGreat.tick s).busy ∧ (Proofs.YtniagcbajjmopaaGreat.tick s).busy ≤ (Proofs.YtniagcbajjmopaaGreat.tick s).now + 4224 := by
    have key : ∀ c : Bool, 0 ≤ (if c = true then s.now + 1 + 4224 else s.busy) ∧ (if c = true then s.now + 1 + 4224 else s.busy) ≤ s.now + 1 + 4224 := by intro c; cases c <;> simp <;> omega
    exact key _
  exact ⟨⟨⟨(show 0 ≤ s.now + 1 by omega), h, F.base.c0, F.base.c1, F.base.d0, F.base.d1, F.base.l0, F.base.l1⟩, F.f0, F.f1, F.o0, F.o1, F.w0, F.w1, F.q0, F.q1, F.p0, F.p1, F.d9, F.l9, F.a0, F.a1, F.b0, F.b1, ea.1, ea.2, eb.1, eb.2, F.g0, F.g1, F.h0, F.h1⟩, ec.1, ec.2⟩
theorem Mid.ticks (M : Mid s) (n : Nat) (h : s.now + n ≤ 281474976710656) : Mid (ticks n s) := by
  induction n generalizing s with
  | zero => exact M
  | succ n ih => exact ih (M.tick (by omega)) (by rw [tick_now]; omega)
theorem Mid.like {s s' : Pt} (M : Mid s) (h : like s' s) : Mid s' := by
  have e : s' = { s with soon := s'.soon } := by
    have h' : ({ s' with soon := 0 } : Pt) = { s with soon := 0 } := h
    have : ({ ({ s' with soon := 0 } : Pt) with soon := s'.soon } : Pt) = { ({ s with soon := 0 } : Pt) with soon := s'.soon } := by rw [h']
    exact this
  rw [e]
  have F := M.fit
  exact ⟨⟨⟨F.base.n0, F.base.n1, F.base.c0, F.base.c1, F.base.d0, F.base.d1, F.base.l0, F.base.l1⟩, F.f0, F.f1, F.o0, F.o1, F.w0, F.w1, F.q0, F.q1, F.p0, F.p1, F.d9, F.l9, F.a0, F.a1, F.b0, F.b1, F.c0, F.c1, F.e0, F.e1, F.g0, F.g1, F.h0, F.h1⟩, M.z0, M.z1⟩
theorem Good.going {s s' : Pt} {T : Int} (G : Good s) (J : Going s T s') (hT : s'.now = T) (h1 : T ≤ 281474976710656) : Good s' := by
  have M : Mid s := ⟨G.fit, G.z0, G.z1⟩
  have hn := J.from_
  have M2 := (M.ticks (s'.now - s.now).toNat (by omega)).like J.like_
  exact ⟨M2.fit, J.ok, M2.z0, M2.z1⟩
theorem like.rs {a b : Pt} (h : like a b) : a.rs = b.rs := by
  have h' : ({ a with soon := 0 } : Pt) = { b with soon := 0 } := h
  have e : ∀ s : Pt, s.rs = ({ s with soon := 0 } : Pt).rs := fun _ => rfl
  rw [e a, e b, h']
theorem Dp.like {a b : Pt} (h : Dp w B b) (l : Proofs.YtniagcbajjmopaaGreat.like a b) : Dp w B a := by
  show Blk w B _ a.rs
  rw [l.rs]; exact h
theorem Good.can (G : Good s) : canP s = true := by
  unfold canP
  have h1 := G.fit.base.n0
  have h2 := G.fit.base.n1
  have h3 := G.z0
  have h4 := G.z1
  have h5 := G.fit.d9
  have h6 := G.fit.l9
  exact decide_eq_true ⟨h1, h2, h3, h4, by omega, by omega⟩
theorem Good.i64 (G : Good s) : I64 s := by
  have h1 := G.fit.base.n0
  have h2 := G.fit.base.n1
  have h3 := G.z0
  have h4 := G.z1
  exact ⟨by omega, by omega, by omega, by omega⟩
theorem Good.zero (G : Good s) : Good { s with soon := 0 } := G.other s.over s.come 0 (soon_zero rfl G.fit.base.n0)
set_option maxHeartbeats 1000000 in
theorem pad_no (A : Po w g s) (n v : Int) (h : n < 0 ∨ 1 < n) : Calls Tryz.prog 9 #[poP g, .int .i64 n, .int .u16 v] w (Says w (.int .i64 3)) := by
  rcases h with h | h
  · go_enter Tryz.func9, Tryz.ntmps9
    go_wp2_with fail
    go_ret
    exact ⟨rfl, Below.refl _ _⟩
  · have h0 : 0 ≤ n := by omega
    have h2 : 2 ≤ n := by omega
    go_enter Tryz.func9, Tryz.ntmps9
    go_wp2_with fail
    go_ret
    exact ⟨rfl, Below.refl _ _⟩
set_option maxHeartbeats 1000000 in
theorem fast_any (A : Po w g s) : Calls Tryz.prog 18 #[poP g] w (Says w (.bool s.fast)) := by
  have c : w.cell? ⟨g, 20, none⟩ = some (.bool s.fast) := A.cell 20
  clear A
  go_enter Tryz.func18, Tryz.ntmps18
  go_wp2_with fail
  go_ret
  exact ⟨rfl, Below.refl _ _⟩
set_option maxHeartbeats 4000000 in
theorem loaded_any {v : Value} {C : Nat} (h : FileAt C (fileOf (portB s)) v w) (G : Good s) :
    Calls Tryz.prog 12 #[v] w (fun e w' => ∃ q, e = .returned (.tuple #[poP q, .int .i64 0]) ∧ w.heap.size ≤ q ∧ Po w' q { s with soon := 0 } ∧ Below w.heap.size w w') := by
  have hne : portB s ≠ [] := by intro e; have := portB_len s; rw [e] at this; cases this
  have NW := Lib.hid (new_any w)
  have NR := Lib.hid (fun w1 (hb : Below w.heap.size w w1) => newR_any w1 v (portB s) C (h.kept hb) hne (portB_byts s) (by rw [portB_len]; omega))
  have LO := Lib.hid (fun w2 (q gr bg cc : Nat) (A : Po w2 q Pt.zero) (H : Rd w2 gr bg cc 0 (portB s)) (n1 : q ≠ gr) (n2 : q ≠ bg) => loadPo_any A G.fit.rng G.i64 H n1 n2)
  have CN := Lib.hid G.can
  clear h G hne
  go_enter Tryz.func12, Tryz.ntmps12
  go_wp2_with fail
  refine NW.out.mono ?_
  rintro e w1 ⟨q, rfl, hq, a1, b1⟩
  have A1 := Lib.hid a1
  have B1 := Lib.hid b1
  have R1 := Lib.hid (NR.out w1 b1)
  clear a1 b1 NW NR
  go_wp2_with fail
  refine R1.out.mono ?_
  rintro e w2 ⟨gr, bg, cc, rfl, hgr, hbg, hr, b2⟩
  have n1 : q ≠ gr := by have := A1.out.lt; omega
  have n2 : q ≠ bg := by have := A1.out.lt; omega
  have L := Lib.hid (LO.out w2 q gr bg cc (A1.out.kept b2) hr n1 n2)
  have B2 := Lib.hid (B1.out.trans (b2.mono B1.out.size))
  have HG : Hid (w.heap.size ≤ gr) := Lib.hid (Nat.le_trans B1.out.size hgr)
  clear hr b2 R1 A1 B1 LO
  go_wp2_with fail
  refine L.out.mono ?_
  rintro e w3 ⟨rfl, a3, r3, u3⟩
  rw [CN.out] at a3
  have A3 := Lib.hid a3
  have HC : Hid ((if canP s = true then (0 : Int) else 250) = 0) := Lib.hid (by rw [CN.out]; rfl)
  have B3 : Hid (Below w.heap.size w w3) := Lib.hid ((u3.upd B2.out hq).out (Below.refl _ _) HG.out)
  clear a3 r3 u3 L
  go_wp2_with fail
  go_ret2
  exact ⟨q, by first | rfl | (rw [HC.out]; rfl), hq, A3.out, B3.out⟩
end
end Go.Proofs.YtniagcbajjmopaaGreat
