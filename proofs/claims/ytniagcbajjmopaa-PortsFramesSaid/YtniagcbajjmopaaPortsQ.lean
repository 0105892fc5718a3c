/- Frames: how many NMIs and IRQs come, in plain words. -/
import Derived.Test.YtniagcbajjmopaaPortsP
namespace Go.Proofs.Ytniagcbajjmopaa
set_option linter.unusedVariables false
set_option linter.unusedSimpArgs false
/-- A unit whose control is 0xb0. -/
structure Fr (s : Pt) (o : Bool) (D L : Int) : Prop where
  c : s.control = 176
  o : s.over = o
  d : s.dot = D
  l : s.line = L
def cnt (x t : Int) : Int := (t - x) / 357368 + 1
def xB (o : Bool) : Int := behind o * 1364
def xI (D L : Int) : Int := if D = 0 ∧ L = 0 then 357368 else 4 * D + L * 1364
def thereI (D L : Int) : Bool := decide (4 * D < 1364) && decide (L < 262)
def cI (D L t : Int) : Int := if thereI D L then cnt (xI D L) t else 0
variable {s : Pt} {o : Bool} {D L : Int}
theorem Fr.tick (F : Fr s o D L) : Fr (tick s) o D L := ⟨F.c, F.o, F.d, F.l⟩
theorem Fr.ticks (F : Fr s o D L) (n : Nat) : Fr (ticks n s) o D L := by
  induction n generalizing s with
  | zero => exact F
  | succ n ih => exact ih F.tick
theorem Fr.like {s' : Pt} (F : Fr s o D L) (h : like s' s) : Fr s' o D L := by
  have h' : ({ s' with soon := 0 } : Pt) = { s with soon := 0 } := h
  exact ⟨(congrArg Pt.control h' : _).trans F.c, (congrArg Pt.over h').trans F.o, (congrArg Pt.dot h').trans F.d, (congrArg Pt.line h').trans F.l⟩
theorem xB_rng (o : Bool) : 306900 ≤ xB o ∧ xB o ≤ 327360 := by unfold xB behind; cases o <;> simp
theorem xI_rng (d0 : 0 ≤ D) (l0 : 0 ≤ L) (h : thereI D L = true) : 0 < xI D L ∧ xI D L ≤ 357368 := by
  unfold thereI at h
  rw [Bool.and_eq_true, decide_eq_true_iff, decide_eq_true_iff] at h
  unfold xI
  split <;> omega
theorem cnt_one {x t : Int} (x0 : 0 < x) (x1 : x ≤ 357368) : cnt x (t + 1) = cnt x t + (if (t + 1) % 357368 = x % 357368 then 1 else 0) := by
  unfold cnt; split <;> omega
theorem cnt_mono {x t : Int} (n : Nat) : cnt x t ≤ cnt x (t + n) := by unfold cnt; omega
theorem cnt_few {x t : Int} (n : Nat) (h : n ≤ 1000) : cnt x (t + n) ≤ cnt x t + 1 := by unfold cnt; omega
theorem cnt_zero {x : Int} (x0 : 0 < x) (x1 : x ≤ 357368) : cnt x 0 = 0 := by unfold cnt; omega
theorem cnt_all {x f : Int} (x0 : 0 < x) (x1 : x ≤ 357368) : cnt x (f * 357368) = f := by unfold cnt; omega
theorem cnt_last {x f t : Int} (x0 : 0 < x) (x1 : x ≤ 340000) (h1 : f * 357368 - 1000 ≤ t) (h2 : t ≤ f * 357368) : cnt x t = f := by unfold cnt; omega
theorem evB_is (F : Fr s o D L) (t : Int) : evB s t = decide (t % 357368 = xB o % 357368) := by
  unfold evB
  rw [F.o]
  have h := hits_line (t := t) (behind_ok o (h := 0) (by omega) (by omega)) (behind_pos o)
  have hx := xB_rng o
  rw [Bool.eq_iff_iff, h, decide_eq_true_iff]
  unfold xB at hx ⊢
  omega
theorem evI_is (F : Fr s o D L) (d0 : 0 ≤ D) (l0 : 0 ≤ L) (t : Int) : evI s t = (thereI D L && decide (t % 357368 = xI D L % 357368)) := by
  unfold evI
  have hw : wants s = true := by unfold wants; rw [F.c]; decide
  have hl : irqL s = L := by unfold irqL; rw [F.c, F.l]; rfl
  have hh : irqH s = 4 * D := by unfold irqH; rw [F.c, F.d]; rfl
  rw [hw, hl, hh, Bool.true_and]
  by_cases ht : thereI D L = true
  · have ht' := ht
    unfold thereI at ht'
    rw [Bool.and_eq_true, decide_eq_true_iff, decide_eq_true_iff] at ht'
    have h := hits_line (t := t) (line := L) (h := 4 * D) ⟨by omega, ht'.1, ht'.2⟩ l0
    rw [ht, Bool.true_and, Bool.eq_iff_iff, h, decide_eq_true_iff]
    unfold xI
    split <;> omega
  · rw [Bool.not_eq_true] at ht
    rw [ht, Bool.false_and, Bool.eq_false_iff]
    intro hh
    unfold hits lineT at hh
    rw [decide_eq_true_iff] at hh
    unfold thereI at ht
    rw [Bool.and_eq_false_iff, decide_eq_false_iff_not, decide_eq_false_iff_not] at ht
    omega
theorem or_assoc3 (a b : Bool) (p q r : Prop) [Decidable p] [Decidable q] [Decidable r] (hb : b = decide p) (h : r ↔ (p ∨ q)) : ((a || b) || decide q) = (a || decide r) := by
  subst hb
  rw [Bool.or_assoc]
  congr 1
  rw [Bool.eq_iff_iff, Bool.or_eq_true, decide_eq_true_iff, decide_eq_true_iff, decide_eq_true_iff]
  exact h.symm
theorem come_ticks (F : Fr s o D L) (n : Nat) : (ticks n s).come = (s.come || decide (cnt (xB o) s.now < cnt (xB o) (s.now + n))) := by
  induction n generalizing s with
  | zero => simp [Proofs.Ytniagcbajjmopaa.ticks]
  | succ n ih =>
    show (Proofs.Ytniagcbajjmopaa.ticks n (Proofs.Ytniagcbajjmopaa.tick s)).come = _
    rw [ih F.tick]
    show ((s.come || (evB s (s.now + 1) && decide (s.control / 128 % 2 = 1))) || decide (cnt (xB o) (s.now + 1) < cnt (xB o) (s.now + 1 + n))) = _
    rw [show decide (s.control / 128 % 2 = 1) = true by rw [F.c]; decide, Bool.and_true]
    have hx := xB_rng o
    refine or_assoc3 _ _ _ _ _ (evB_is F _) ?_
    have h1 := cnt_one (x := xB o) (t := s.now) (by omega) (by omega)
    have h2 := cnt_mono (x := xB o) (t := s.now + 1) n
    rw [show s.now + 1 + (n : Int) = s.now + ((n + 1 : Nat) : Int) by omega] at h2 ⊢
    split at h1 <;> omega
theorem irq_ticks (F : Fr s o D L) (d0 : 0 ≤ D) (l0 : 0 ≤ L) (n : Nat) : (ticks n s).irq = (s.irq || decide (cI D L s.now < cI D L (s.now + n))) := by
  induction n generalizing s with
  | zero => simp [Proofs.Ytniagcbajjmopaa.ticks]
  | succ n ih =>
    show (Proofs.Ytniagcbajjmopaa.ticks n (Proofs.Ytniagcbajjmopaa.tick s)).irq = _
    rw [ih F.tick]
    show ((s.irq || evI s (s.now + 1)) || decide (cI D L (s.now + 1) < cI D L (s.now + 1 + n))) = _
    have he := evI_is F d0 l0 (s.now + 1)
    by_cases ht : thereI D L = true
    · rw [ht, Bool.true_and] at he
      refine or_assoc3 _ _ _ _ _ he ?_
      have hx := xI_rng d0 l0 ht
      unfold cI
      simp only [if_pos ht]
      have h1 := cnt_one (x := xI D L) (t := s.now) (by omega) (by omega)
      have h2 := cnt_mono (x := xI D L) (t := s.now + 1) n
      rw [show s.now + 1 + (n : Int) = s.now + ((n + 1 : Nat) : Int) by omega] at h2 ⊢
      split at h1 <;> omega
    · rw [Bool.not_eq_true] at ht
      rw [ht, Bool.false_and] at he
      rw [he]
      unfold cI
      simp [ht]
/-- What stands when a poll is over. -/
structure Polled (s : Pt) (o : Bool) (D L t nm ir : Int) : Prop where
  fr : Fr s o D L
  fit : Fit s
  ok : SoonOk s
  now : s.now = t
  come : s.come = false
  irq : s.irq = false
  nm : nm = cnt (xB o) t
  ir : ir = cI D L t
theorem cI_few (t : Int) (n : Nat) (h : n ≤ 1000) : cI D L t ≤ cI D L (t + n) ∧ cI D L (t + n) ≤ cI D L t + 1 := by
  unfold cI
  split
  · exact ⟨cnt_mono n, cnt_few n h⟩
  · omega
/-- Going on, then polling. -/
theorem Polled.next {t nm ir T : Int} {s' : Pt} (P : Polled s o D L t nm ir) (d0 : 0 ≤ D) (l0 : 0 ≤ L) (G : Going s T s') (hn : s'.now = T) (h0 : t ≤ T) (h1 : T ≤ t + 100) :
    s'.come = decide (cnt (xB o) t < cnt (xB o) T) ∧ s'.irq = decide (cI D L t < cI D L T) ∧
    Polled { s' with come := false, irq := false } o D L T (nm + (if s'.come then 1 else 0)) (ir + (if s'.irq then 1 else 0)) := by
  obtain ⟨n, hnn⟩ : ∃ n : Nat, (s'.now - s.now).toNat = n := ⟨_, rfl⟩
  have hT : T = t + (n : Int) := by have := P.now; omega
  have hl := G.like_
  rw [hnn] at hl
  have hl' : ({ s' with soon := 0 } : Pt) = { ticks n s with soon := 0 } := hl
  have e1 : s'.come = (ticks n s).come := (congrArg Pt.come hl' : _)
  have e2 : s'.irq = (ticks n s).irq := (congrArg Pt.irq hl' : _)
  rw [come_ticks P.fr, P.come, P.now, Bool.false_or, ← hT] at e1
  rw [irq_ticks P.fr d0 l0, P.irq, P.now, Bool.false_or, ← hT] at e2
  have m1 := cnt_mono (x := xB o) (t := t) n
  have m2 := cnt_few (x := xB o) (t := t) n (by omega)
  have m3 := cI_few (D := D) (L := L) t n (by omega)
  rw [← hT] at m1 m2 m3
  have F' := (P.fr.ticks n).like hl
  refine ⟨e1, e2, ⟨F'.c, F'.o, F'.d, F'.l⟩, ⟨G.fit.n0, G.fit.n1, G.fit.c0, G.fit.c1, G.fit.d0, G.fit.d1, G.fit.l0, G.fit.l1⟩, G.ok, hn, rfl, rfl, ?_, ?_⟩
  · rw [e1, P.nm]
    by_cases h : cnt (xB o) t < cnt (xB o) T
    · simp [h]; omega
    · simp [h]; omega
  · rw [e2, P.ir]
    by_cases h : cI D L t < cI D L T
    · simp [h]; omega
    · simp [h]; omega
end Go.Proofs.Ytniagcbajjmopaa
