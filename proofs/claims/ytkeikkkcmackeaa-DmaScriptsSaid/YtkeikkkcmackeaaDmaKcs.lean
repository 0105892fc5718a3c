/- dma, plain: how the tables begin, as a relation; what stays true. dma, plain: what a transfer is, and what carrying it out does; what stays true. -/
import Derived.Test.YtkeikkkcmackeaaDmaKa
import Derived.Test.YtkeikkkcmackeaaDmaLs
namespace Go.Proofs.Ytkeikkkcmackeaa
open Go.RowKit
set_option linter.unusedVariables false
set_option linter.unusedSimpArgs false
set_option maxRecDepth 100000
/-- From f the tables begin and come to r. -/
inductive Beg (r : Nat → Int) : (Nat → Int) → Prop
  | none {f : Nat → Int} : f 102 = 0 → r = endF f → Beg r f
  | frame {f : Nat → Int} : f 102 ≠ 0 → f 101 = 1 → r = frmF (lowC (f 102)) f → Beg r f
  | does {f : Nat → Int} : f 102 ≠ 0 → f 101 ≠ 1 → bitN (f 100) (lowC (f 102)) = 1 → r = put1 f 103 0 → Beg r f
  | stop {f : Nat → Int} : f 102 ≠ 0 → f 101 ≠ 1 → bitN (f 100) (lowC (f 102)) ≠ 1 → (cntF (lowC (f 102)) (put1 f 103 0)).1 = false → r = (cntF (lowC (f 102)) (put1 f 103 0)).2 → Beg r f
  | again {f : Nat → Int} : f 102 ≠ 0 → f 101 ≠ 1 → bitN (f 100) (lowC (f 102)) ≠ 1 → (cntF (lowC (f 102)) (put1 f 103 0)).1 = true → Beg r (cntF (lowC (f 102)) (put1 f 103 0)).2 → Beg r f
theorem low_of {f : Nat → Int} (R : Rng f) (h : f 102 ≠ 0) : lowC (f 102) < 8 ∧ First (f 102) (lowC (f 102)) := by
  have := R 102
  exact low_first (by omega) this.2
theorem cnt102 {f : Nat → Int} (c : Nat) (hc : c < 8) (h : (cntF c (put1 f 103 0)).1 = true) : (cntF c (put1 f 103 0)).2 102 = bits .andNot .u8 (f 102) (bitOf c) := by
  rw [cntF_102 c hc _ h, put1_ne (by decide)]
theorem beg_total {f : Nat → Int} (R : Rng f) : ∃ r, Beg r f := by
  obtain ⟨n, hn⟩ : ∃ n, (f 102).toNat = n := ⟨_, rfl⟩
  induction n using Nat.strongRecOn generalizing f with
  | _ n ih =>
    by_cases h0 : f 102 = 0
    · exact ⟨_, .none h0 rfl⟩
    by_cases h1 : f 101 = 1
    · exact ⟨_, .frame h0 h1 rfl⟩
    by_cases h2 : bitN (f 100) (lowC (f 102)) = 1
    · exact ⟨_, .does h0 h1 h2 rfl⟩
    cases hq : (cntF (lowC (f 102)) (put1 f 103 0)).1
    · exact ⟨_, .stop h0 h1 h2 hq rfl⟩
    · obtain ⟨hc, hf⟩ := low_of R h0
      have R1 : Rng (put1 f 103 0) := R.put1 _ (by omega) (by omega)
      have rr := R 102
      have hd := low_drop (f 102) (by omega) rr.2
      have e := cnt102 _ hc hq
      have R2 := cntF_rng R1 (lowC (f 102)) hc
      have r2 := R2 102
      rw [e] at r2
      obtain ⟨r, hr⟩ := ih ((cntF (lowC (f 102)) (put1 f 103 0)).2 102).toNat (by rw [e]; omega) R2 rfl
      exact ⟨r, .again h0 h1 h2 hq hr⟩
/-- What is kept while tables begin. -/
structure Pre (f : Nat → Int) : Prop where
  r : Rng f
  m1 : ¬ 3 < f 97
  m2 : ¬ (0 < f 97 ∧ f 96 = 0)
  wy : f 101 = 1 ∨ f 101 = 2
  e2 : f 101 = 2 → ∀ k, k < 8 → bitN (f 102) k = 1 → bitN (f 99) k ≠ 1
/-- What stays true. -/
structure Inv (f : Nat → Int) : Prop where
  r : Rng f
  can : canP f
  e2 : f 101 = 2 → ∀ k, k < 8 → bitN (f 102) k = 1 → bitN (f 99) k ≠ 1
  e1 : f 101 = 1 → bitN (f 99) (lowC (f 102)) ≠ 1
theorem cntF_97 (c : Nat) (hc : c < 8) (f : Nat → Int) (j : Nat) (h : j = 96 ∨ j = 97 ∨ j = 99 ∨ j = 101) : (cntF c (put1 f 103 0)).2 j = f j := by
  rw [cntF_ne c hc _ (by omega) (by omega) (by omega) (by omega), put1_ne (by omega)]
theorem cntF_stop (c : Nat) (hc : c < 8) (f : Nat → Int) (h : (cntF c f).1 = false) : (cntF c f).2 103 = 8 ∧ (cntF c f).2 102 = f 102 := by
  unfold cntF cntC at *
  by_cases e : (cntB c (cntA c f)) (c * 12 + 10) % 128 = 0
  · rw [if_pos e]
    simp only []
    refine ⟨by rw [put1_at, if_pos rfl], ?_⟩
    rw [put1_ne (by decide)]
    unfold cntB cntA
    rw [put1_ne (by decide), put1_ne (by omega)]
  · rw [if_neg e] at h; cases h
theorem Beg.inv {r f : Nat → Int} (h : Beg r f) (P : Pre f) : Inv r := by
  induction h with
  | @none f h0 hr =>
    subst hr
    have R := P.r
    have e (j : Nat) (h : j ≠ 101) (h2 : j ≠ 103) : endF f j = f j := by unfold endF; rw [put1_ne h, put1_ne h2]
    have e1 : endF f 101 = 0 := by unfold endF; rw [put1_at, if_pos rfl]
    have e3 : endF f 103 = 0 := by unfold endF; rw [put1_ne (by decide), put1_at, if_pos rfl]
    refine ⟨endF_rng R, ?_, fun h => by rw [e1] at h; omega, fun h => by rw [e1] at h; omega⟩
    unfold canP
    rw [e 97 (by decide) (by decide), e 96 (by decide) (by decide), e1, e3, e 102 (by decide) (by decide)]
    exact ⟨P.m1, P.m2, by omega, fun _ => ⟨h0, rfl⟩, fun h => absurd rfl h⟩
  | @frame f h0 h1 hr =>
    subst hr
    obtain ⟨hc, hf⟩ := low_of P.r h0
    obtain ⟨c, hcc⟩ : ∃ c, lowC (f 102) = c := ⟨_, rfl⟩
    rw [hcc] at hc hf ⊢
    have r99 := P.r 99
    have e (j : Nat) (h : j = 96 ∨ j = 97 ∨ j = 100 ∨ j = 101 ∨ j = 102) : frmF c f j = f j := by
      unfold frmF; rw [put1_ne (by omega), put2_ne (by omega) (by omega), put1_ne (by omega), put1_ne (by omega)]
    have e99 : frmF c f 99 = pt (f 99) (bitOf c) false := by
      unfold frmF; rw [put1_ne (by omega), put2_ne (by omega) (by omega), put1_at, if_pos rfl]
    have e3 : frmF c f 103 = 8 := by unfold frmF; rw [put1_at, if_pos rfl]
    refine ⟨frmF_rng P.r c hc, ?_, fun h => by rw [e 101 (by omega)] at h; omega, fun _ => ?_⟩
    · unfold canP
      rw [e 97 (by omega), e 96 (by omega), e 101 (by omega), e 102 (by omega), e3]
      exact ⟨P.m1, P.m2, by omega, fun h => by omega, fun _ => ⟨h0, by omega, by omega, Or.inl (by omega)⟩⟩
    · rw [e 102 (by omega), hcc, e99, bitN_pt c hc false r99.1 r99.2 c hc, if_pos rfl]
      simp
  | @does f h0 h1 h2 hr =>
    subst hr
    have w2 : f 101 = 2 := by have := P.wy; omega
    have e (j : Nat) (h : j ≠ 103) : put1 f 103 0 j = f j := put1_ne h
    refine ⟨P.r.put1 _ (by omega) (by omega), ?_, fun h => ?_, fun h => by rw [e 101 (by decide)] at h; omega⟩
    · unfold canP
      rw [e 97 (by decide), e 96 (by decide), e 101 (by decide), e 102 (by decide), e 100 (by decide), put1_at, if_pos rfl]
      exact ⟨P.m1, P.m2, by omega, fun h => by omega, fun _ => ⟨h0, by omega, by omega, Or.inr ⟨w2, h2⟩⟩⟩
    · rw [e 102 (by decide), e 99 (by decide)]; exact P.e2 w2
  | @stop f h0 h1 h2 hq hr =>
    subst hr
    obtain ⟨hc, hf⟩ := low_of P.r h0
    have w2 : f 101 = 2 := by have := P.wy; omega
    have R1 : Rng (put1 f 103 0) := P.r.put1 _ (by omega) (by omega)
    obtain ⟨z3, z2⟩ := cntF_stop _ hc _ hq
    rw [put1_ne (by decide)] at z2
    obtain ⟨c, hcc⟩ : ∃ c, lowC (f 102) = c := ⟨_, rfl⟩
    rw [hcc] at hc hq z3 z2 ⊢
    have e := cntF_97 c hc f
    refine ⟨cntF_rng R1 c hc, ?_, fun h => ?_, fun h => by rw [e 101 (by omega)] at h; omega⟩
    · unfold canP
      rw [e 97 (by omega), e 96 (by omega), e 101 (by omega), z2, z3]
      exact ⟨P.m1, P.m2, by omega, fun h => by omega, fun _ => ⟨h0, by omega, by omega, Or.inl (by omega)⟩⟩
    · rw [z2, e 99 (by omega)]; exact P.e2 w2
  | @again f h0 h1 h2 hq hb ih =>
    obtain ⟨hc, hf⟩ := low_of P.r h0
    have w2 : f 101 = 2 := by have := P.wy; omega
    have R1 : Rng (put1 f 103 0) := P.r.put1 _ (by omega) (by omega)
    have z := cnt102 _ hc hq
    have e := cntF_97 _ hc f
    have r2 := P.r 102
    obtain ⟨b0, b1⟩ := bitOf_rng _ hc
    refine ih ⟨cntF_rng R1 _ hc, by rw [e 97 (by omega)]; exact P.m1, by rw [e 97 (by omega), e 96 (by omega)]; exact P.m2, by rw [e 101 (by omega)]; exact P.wy, fun _ k hk hb => ?_⟩
    rw [e 99 (by omega)]
    refine P.e2 w2 k hk ?_
    rw [z, bitN_andNot r2.1 r2.2 b0 b1 k hk] at hb
    by_cases q : bitN (f 102) k = 1 ∧ bitN (bitOf (lowC (f 102))) k ≠ 1
    · exact q.1
    · rw [if_neg q] at hb; omega
end Go.Proofs.Ytkeikkkcmackeaa

namespace Go.Proofs.Ytkeikkkcmackeaa
open Go.RowKit
set_option linter.unusedVariables false
set_option linter.unusedSimpArgs false
set_option maxRecDepth 100000
/-- Where a table's bytes lie. -/
def indB (f : Nat → Int) (c : Nat) : Bool := decide (bitN (f (c * 12)) 6 = 1)
/-- A byte of a line. -/
def utA (c : Nat) (f : Nat → Int) : Nat → Int := if indB f c then put2 f (c * 12 + 5) ((wordOf f (c * 12 + 5) + 1) % 65536) else put2 f (c * 12 + 8) ((wordOf f (c * 12 + 8) + 1) % 65536)
def utB (c : Nat) (f : Nat → Int) : Nat → Int := put1 (utA c f) 103 (f 103 + 1)
def utF (c : Nat) (f : Nat → Int) : Bool × (Nat → Int) := if lenOf (f (c * 12)) ≤ f 103 + 1 then cntF c (utB c f) else (false, utB c f)
/-- A byte of an entry. -/
def enA (c : Nat) (f : Nat → Int) : Nat → Int := put2 f (c * 12 + 8) ((wordOf f (c * 12 + 8) + 1) % 65536)
def ovF (c : Nat) (f : Nat → Int) : Nat → Int := put1 f 102 (bits .andNot .u8 (f 102) (bitOf c))
def dsF (c : Nat) (f : Nat → Int) : Nat → Int := put1 f 100 (bits .or .u8 (f 100) (bitOf c))
def edF (c : Nat) (f : Nat → Int) : Nat → Int := put1 f 99 (bits .or .u8 (f 99) (bitOf c))
def enF (c : Nat) (v : Int) (f : Nat → Int) : Bool × (Nat → Int) :=
  if f 103 = 8 then
    if v = 0 then (true, ovF c (edF c (put1 (enA c f) (c * 12 + 10) v)))
    else if indB f c then (false, put1 (put1 (enA c f) (c * 12 + 10) v) 103 9)
    else (true, ovF c (dsF c (put1 (enA c f) (c * 12 + 10) v)))
  else if f 103 = 9 then (false, put1 (put1 (enA c f) (c * 12 + 5) v) 103 10)
  else (true, ovF c (dsF c (put1 (enA c f) (c * 12 + 6) v)))
def stF (v : Int) (f : Nat → Int) : Bool × (Nat → Int) := if f 103 < 8 then utF (lowC (f 102)) f else enF (lowC (f 102)) v f
theorem utA_ne {c j : Nat} {f : Nat → Int} (h : 96 ≤ j) (hc : c < 8) : utA c f j = f j := by
  unfold utA; split <;> exact put2_ne (by omega) (by omega)
theorem enA_ne {c j : Nat} {f : Nat → Int} (h : 96 ≤ j) (hc : c < 8) : enA c f j = f j := put2_ne (by omega) (by omega)
theorem utA_rng {c : Nat} {f : Nat → Int} (R : Rng f) : Rng (utA c f) := by
  have h1 := wordOf_rng R (c * 12 + 5)
  have h2 := wordOf_rng R (c * 12 + 8)
  unfold utA; split
  · exact R.put2 _ (by omega) (by omega)
  · exact R.put2 _ (by omega) (by omega)
theorem enA_rng {c : Nat} {f : Nat → Int} (R : Rng f) : Rng (enA c f) := by
  have h2 := wordOf_rng R (c * 12 + 8)
  exact R.put2 _ (by omega) (by omega)
theorem ovF_rng {c : Nat} (hc : c < 8) {f : Nat → Int} (R : Rng f) : Rng (ovF c f) := by
  obtain ⟨b0, b1⟩ := bitOf_rng c hc
  have h := u8_andNot_rng (f 102) (bitOf c) (R 102).1 (R 102).2 b0 b1
  exact R.put1 _ h.1 h.2
theorem dsF_rng {c : Nat} (hc : c < 8) {f : Nat → Int} (R : Rng f) : Rng (dsF c f) := by
  obtain ⟨b0, b1⟩ := bitOf_rng c hc
  have h := u8_or_rng' (f 100) (bitOf c) (R 100).1 (R 100).2 b0 b1
  exact R.put1 _ h.1 h.2
theorem edF_rng {c : Nat} (hc : c < 8) {f : Nat → Int} (R : Rng f) : Rng (edF c f) := by
  obtain ⟨b0, b1⟩ := bitOf_rng c hc
  have h := u8_or_rng' (f 99) (bitOf c) (R 99).1 (R 99).2 b0 b1
  exact R.put1 _ h.1 h.2
/-- What holds of a state with a table under way. -/
structure Wt (f : Nat → Int) (c : Nat) : Prop where
  r : Rng f
  hc : c < 8
  low : lowC (f 102) = c
  fst : First (f 102) c
  m1 : ¬ 3 < f 97
  m2 : ¬ (0 < f 97 ∧ f 96 = 0)
  wy : f 101 = 1 ∨ f 101 = 2
  s10 : f 103 ≤ 10
  sx : f 103 ≤ 3 ∨ 8 ≤ f 103
  e2 : f 101 = 2 → ∀ k, k < 8 → bitN (f 102) k = 1 → bitN (f 99) k ≠ 1
  ec : bitN (f 99) c ≠ 1
  dz : f 103 < 8 → f 101 = 2 ∧ bitN (f 100) c = 1
theorem Inv.wt {f : Nat → Int} (I : Inv f) (h : f 101 ≠ 0) : Wt f (lowC (f 102)) := by
  obtain ⟨c1, c2, c3, c4, c5⟩ := I.can
  obtain ⟨d1, d2, d3, d4⟩ := c5 h
  obtain ⟨hc, hf⟩ := low_of I.r d1
  have r1 := I.r 101
  have r3 := I.r 103
  refine ⟨I.r, hc, rfl, hf, c1, c2, by omega, by omega, by omega, I.e2, ?_, fun z => by
    rcases d4 with d4 | d4
    · omega
    · exact d4⟩
  by_cases w1 : f 101 = 1
  · exact I.e1 w1
  · have r2 := I.r 102
    exact I.e2 (by omega) _ hc (low_bit _ (by omega) r2.2)
/-- Behind a byte that lets the next channel begin. -/
theorem over_pre {f f' : Nat → Int} {c : Nat} (W : Wt f c) (R : Rng f') (h96 : f' 96 = f 96) (h97 : f' 97 = f 97) (h101 : f' 101 = f 101) (h102 : f' 102 = f 102) (h99 : f' 99 = f 99 ∨ f' 99 = bits .or .u8 (f 99) (bitOf c)) : Pre (ovF c f') := by
  obtain ⟨b0, b1⟩ := bitOf_rng c W.hc
  have e (j : Nat) (h : j ≠ 102) : ovF c f' j = f' j := put1_ne h
  refine ⟨ovF_rng W.hc R, by rw [e 97 (by decide), h97]; exact W.m1, by rw [e 97 (by decide), e 96 (by decide), h97, h96]; exact W.m2, by rw [e 101 (by decide), h101]; exact W.wy, fun hw k hk hb => ?_⟩
  rw [e 101 (by decide), h101] at hw
  have z : ovF c f' 102 = bits .andNot .u8 (f 102) (bitOf c) := by unfold ovF; rw [put1_at, if_pos rfl, h102]
  rw [z, bitN_andNot (W.r 102).1 (W.r 102).2 b0 b1 k hk, bitN_bitOf c k W.hc hk] at hb
  rw [e 99 (by decide)]
  by_cases q : k = c
  · rw [if_pos q] at hb
    rw [if_neg (by simp)] at hb
    omega
  · rw [if_neg q] at hb
    have hb2 : bitN (f 102) k = 1 := by
      by_cases z : bitN (f 102) k = 1
      · exact z
      · rw [if_neg (by simp [z])] at hb; omega
    have old := W.e2 hw k hk hb2
    rcases h99 with h | h
    · rw [h]; exact old
    · rw [h, bitN_or (W.r 99).1 (W.r 99).2 b0 b1 k, bitN_bitOf c k W.hc hk, if_neg q, if_neg (by simp [old])]
      omega
theorem stay_inv {f f' : Nat → Int} {c : Nat} (W : Wt f c) (R : Rng f') (h96 : f' 96 = f 96) (h97 : f' 97 = f 97) (h99 : f' 99 = f 99) (h101 : f' 101 = f 101) (h102 : f' 102 = f 102) (hs : (f' 103 ≤ 3 ∧ f 103 < 8 ∧ f' 100 = f 100) ∨ (8 ≤ f' 103 ∧ f' 103 ≤ 10)) : Inv f' := by
  have hw := W.wy
  have h0 : f 102 ≠ 0 := by have := W.fst.1; omega
  refine ⟨R, ?_, fun z => by rw [h101] at z; rw [h102, h99]; exact W.e2 z, fun z => by rw [h102, h99, W.low]; exact W.ec⟩
  unfold canP
  rw [h97, h96, h101, h102, W.low]
  refine ⟨W.m1, W.m2, by omega, fun z => by omega, fun _ => ⟨h0, by omega, by omega, ?_⟩⟩
  rcases hs with ⟨a, b, d⟩ | ⟨a, b⟩
  · obtain ⟨z1, z2⟩ := W.dz b
    rw [d]
    exact Or.inr ⟨z1, z2⟩
  · exact Or.inl a
theorem cnt_pre {f f' : Nat → Int} {c : Nat} (W : Wt f c) (R : Rng f') (h96 : f' 96 = f 96) (h97 : f' 97 = f 97) (h99 : f' 99 = f 99) (h101 : f' 101 = f 101) (h102 : f' 102 = f 102) : ((cntF c f').1 = true → Pre (cntF c f').2) ∧ ((cntF c f').1 = false → Inv (cntF c f').2) := by
  have hc := W.hc
  have e (j : Nat) (h : j = 96 ∨ j = 97 ∨ j = 99 ∨ j = 101) : (cntF c f').2 j = f' j := cntF_ne c hc _ (by omega) (by omega) (by omega) (by omega)
  constructor
  · intro hq
    have z := cntF_102 c hc f' hq
    have P := over_pre W R h96 h97 h101 h102 (Or.inl h99)
    have o (j : Nat) (h : j = 96 ∨ j = 97 ∨ j = 99 ∨ j = 101) : ovF c f' j = f' j := put1_ne (by omega)
    have o2 : ovF c f' 102 = bits .andNot .u8 (f' 102) (bitOf c) := by unfold ovF; rw [put1_at, if_pos rfl]
    refine ⟨cntF_rng R c hc, by rw [e 97 (by omega), ← o 97 (by omega)]; exact P.m1, by rw [e 97 (by omega), e 96 (by omega), ← o 97 (by omega), ← o 96 (by omega)]; exact P.m2, by rw [e 101 (by omega), ← o 101 (by omega)]; exact P.wy, ?_⟩
    rw [e 101 (by omega), z, e 99 (by omega), ← o2, ← o 99 (by omega), ← o 101 (by omega)]
    exact P.e2
  · intro hq
    obtain ⟨z3, z2⟩ := cntF_stop c hc _ hq
    exact stay_inv W (cntF_rng R c hc) ((e 96 (by omega)).trans h96) ((e 97 (by omega)).trans h97) ((e 99 (by omega)).trans h99) ((e 101 (by omega)).trans h101) (z2.trans h102) (Or.inr (by omega))
theorem stF_inv {f : Nat → Int} (I : Inv f) (h : f 101 ≠ 0) (v : Int) (v0 : 0 ≤ v) (v1 : v ≤ 255) : ((stF v f).1 = true → Pre (stF v f).2) ∧ ((stF v f).1 = false → Inv (stF v f).2) := by
  have W := I.wt h
  obtain ⟨c, hcc⟩ : ∃ c, lowC (f 102) = c := ⟨_, rfl⟩
  rw [hcc] at W
  have hc := W.hc
  unfold stF
  rw [hcc]
  have r3 := I.r 103
  by_cases hs : f 103 < 8
  · rw [if_pos hs]
    have hs3 : f 103 ≤ 3 := by have := W.sx; omega
    have RB : Rng (utB c f) := (utA_rng I.r).put1 _ (by omega) (by omega)
    have e (j : Nat) (h : 96 ≤ j) (h2 : j ≠ 103) : utB c f j = f j := by unfold utB; rw [put1_ne h2, utA_ne h hc]
    have e3 : utB c f 103 = f 103 + 1 := by unfold utB; rw [put1_at, if_pos rfl]
    have ln := lenOf_rng (f (c * 12))
    unfold utF
    by_cases hl : lenOf (f (c * 12)) ≤ f 103 + 1
    · rw [if_pos hl]
      exact cnt_pre W RB (e 96 (by omega) (by omega)) (e 97 (by omega) (by omega)) (e 99 (by omega) (by omega)) (e 101 (by omega) (by omega)) (e 102 (by omega) (by omega))
    · rw [if_neg hl]
      refine ⟨fun h => (by cases h), fun _ => ?_⟩
      exact stay_inv W RB (e 96 (by omega) (by omega)) (e 97 (by omega) (by omega)) (e 99 (by omega) (by omega)) (e 101 (by omega) (by omega)) (e 102 (by omega) (by omega)) (Or.inl ⟨(by rw [e3]; omega : utB c f 103 ≤ 3), hs, e 100 (by omega) (by omega)⟩)
  · rw [if_neg hs]
    have RA : Rng (enA c f) := enA_rng I.r
    have e (j : Nat) (h : 96 ≤ j) : enA c f j = f j := enA_ne h hc
    have P (i : Nat) (hi : i < 96) : Rng (put1 (enA c f) i v) := RA.put1 _ v0 v1
    have q (i : Nat) (hi : i < 96) (j : Nat) (h : 96 ≤ j) : put1 (enA c f) i v j = f j := by rw [put1_ne (by omega), e j h]
    unfold enF
    by_cases h8 : f 103 = 8
    · rw [if_pos h8]
      have hi : c * 12 + 10 < 96 := by omega
      by_cases hv : v = 0
      · rw [if_pos hv]
        refine ⟨fun _ => ?_, fun h => (by cases h)⟩
        have o (j : Nat) (h : 96 ≤ j) (h2 : j ≠ 99) : edF c (put1 (enA c f) (c * 12 + 10) v) j = f j := by unfold edF; rw [put1_ne h2, q _ hi j h]
        refine over_pre W (edF_rng hc (P _ hi)) (o 96 (by omega) (by omega)) (o 97 (by omega) (by omega)) (o 101 (by omega) (by omega)) (o 102 (by omega) (by omega)) (Or.inr ?_)
        unfold edF; rw [put1_at, if_pos rfl, q _ hi 99 (by omega)]
      · rw [if_neg hv]
        by_cases hd : indB f c = true
        · rw [if_pos hd]
          refine ⟨fun h => (by cases h), fun _ => ?_⟩
          have o (j : Nat) (h : 96 ≤ j) (h2 : j ≠ 103) : put1 (put1 (enA c f) (c * 12 + 10) v) 103 9 j = f j := by rw [put1_ne h2, q _ hi j h]
          exact stay_inv W ((P _ hi).put1 _ (by omega) (by omega)) (o 96 (by omega) (by omega)) (o 97 (by omega) (by omega)) (o 99 (by omega) (by omega)) (o 101 (by omega) (by omega)) (o 102 (by omega) (by omega)) (Or.inr ⟨(by rw [put1_at, if_pos rfl]; omega : 8 ≤ put1 (put1 (enA c f) (c * 12 + 10) v) 103 9 103), (by rw [put1_at, if_pos rfl]; omega : put1 (put1 (enA c f) (c * 12 + 10) v) 103 9 103 ≤ 10)⟩)
        · rw [if_neg hd]
          refine ⟨fun _ => ?_, fun h => (by cases h)⟩
          have o (j : Nat) (h : 96 ≤ j) (h2 : j ≠ 100) : dsF c (put1 (enA c f) (c * 12 + 10) v) j = f j := by unfold dsF; rw [put1_ne h2, q _ hi j h]
          exact over_pre W (dsF_rng hc (P _ hi)) (o 96 (by omega) (by omega)) (o 97 (by omega) (by omega)) (o 101 (by omega) (by omega)) (o 102 (by omega) (by omega)) (Or.inl (o 99 (by omega) (by omega)))
    · rw [if_neg h8]
      by_cases h9 : f 103 = 9
      · rw [if_pos h9]
        have hi : c * 12 + 5 < 96 := by omega
        refine ⟨fun h => (by cases h), fun _ => ?_⟩
        have o (j : Nat) (h : 96 ≤ j) (h2 : j ≠ 103) : put1 (put1 (enA c f) (c * 12 + 5) v) 103 10 j = f j := by rw [put1_ne h2, q _ hi j h]
        exact stay_inv W ((P _ hi).put1 _ (by omega) (by omega)) (o 96 (by omega) (by omega)) (o 97 (by omega) (by omega)) (o 99 (by omega) (by omega)) (o 101 (by omega) (by omega)) (o 102 (by omega) (by omega)) (Or.inr ⟨(by rw [put1_at, if_pos rfl]; omega : 8 ≤ put1 (put1 (enA c f) (c * 12 + 5) v) 103 10 103), (by rw [put1_at, if_pos rfl]; omega : put1 (put1 (enA c f) (c * 12 + 5) v) 103 10 103 ≤ 10)⟩)
      · rw [if_neg h9]
        have hi : c * 12 + 6 < 96 := by omega
        refine ⟨fun _ => ?_, fun h => (by cases h)⟩
        have o (j : Nat) (h : 96 ≤ j) (h2 : j ≠ 100) : dsF c (put1 (enA c f) (c * 12 + 6) v) j = f j := by unfold dsF; rw [put1_ne h2, q _ hi j h]
        exact over_pre W (dsF_rng hc (P _ hi)) (o 96 (by omega) (by omega)) (o 97 (by omega) (by omega)) (o 101 (by omega) (by omega)) (o 102 (by omega) (by omega)) (Or.inl (o 99 (by omega) (by omega)))
/-- A move of a byte keeps it. -/
theorem doneM_inv {f : Nat → Int} (I : Inv f) (h : f 101 = 0) (hm : f 96 ≠ 0) (R : Rng (doneM (lowC (f 96)) f)) : Inv (doneM (lowC (f 96)) f) := by
  have r6 := I.r 96
  obtain ⟨hc, hf⟩ := low_first (x := f 96) (by omega) r6.2
  obtain ⟨c, hcc⟩ : ∃ c, lowC (f 96) = c := ⟨_, rfl⟩
  rw [hcc] at hc hf R ⊢
  obtain ⟨c1, c2, c3, c4, c5⟩ := I.can
  obtain ⟨z2, z3⟩ := c4 h
  have e (j : Nat) (h1 : 98 ≤ j) : doneM c f j = f j := doneM_ne hc (by omega) (by omega) (by omega) (by omega) (by omega) (by omega)
  have r7 := I.r 97
  refine ⟨R, ?_, fun z => by rw [e 101 (by omega)] at z; omega, fun z => by rw [e 101 (by omega)] at z; omega⟩
  unfold canP
  rw [e 101 (by omega), e 102 (by omega), e 103 (by omega)]
  have key : ¬ 3 < doneM c f 97 ∧ ¬ (0 < doneM c f 97 ∧ doneM c f 96 = 0) := by
    unfold doneM mvD
    have h97 : (mvC (mvB (c * 12) (mvA (c * 12) f))) 97 = (f 97 + 1) % 4 := by
      unfold mvC mvB
      rw [put1_at, if_pos rfl, put2_ne (by omega) (by omega), mvA_ne (by omega) (by omega)]
    have h96 : (mvC (mvB (c * 12) (mvA (c * 12) f))) 96 = f 96 := by
      unfold mvC mvB
      rw [put1_ne (by decide), put2_ne (by omega) (by omega), mvA_ne (by omega) (by omega)]
    split
    · rw [put1_at, if_pos rfl]; omega
    · rw [h97, h96]; omega
  exact ⟨key.1, key.2, by omega, fun _ => ⟨z2, z3⟩, fun z => absurd h z⟩
theorem wrF_inv {f : Nat → Int} (I : Inv f) (p v : Int) (v0 : 0 ≤ v) (v1 : v ≤ 255) : Inv (wrF p v f).2 := by
  obtain ⟨c1, c2, c3, c4, c5⟩ := I.can
  unfold wrF
  split
  · have r6 := u8_or_rng' (f 96) v (I.r 96).1 (I.r 96).2 v0 v1
    have r7 := I.r 97
    simp only []
    have RR : Rng (put1 (if f 96 = 0 then put1 f 97 0 else f) 96 (bits .or .u8 (f 96) v)) := by
      split
      · exact (I.r.put1 _ (by omega) (by omega)).put1 _ r6.1 r6.2
      · exact I.r.put1 _ r6.1 r6.2
    have e (j : Nat) (h : 98 ≤ j) : put1 (if f 96 = 0 then put1 f 97 0 else f) 96 (bits .or .u8 (f 96) v) j = f j := by
      rw [put1_ne (by omega)]; split
      · rw [put1_ne (by omega)]
      · rfl
    refine ⟨RR, ?_, by rw [e 101 (by omega), e 102 (by omega), e 99 (by omega)]; exact I.e2, by rw [e 101 (by omega), e 102 (by omega), e 99 (by omega)]; exact I.e1⟩
    unfold canP
    rw [e 101 (by omega), e 102 (by omega), e 103 (by omega), e 100 (by omega)]
    have e6 : put1 (if f 96 = 0 then put1 f 97 0 else f) 96 (bits .or .u8 (f 96) v) 96 = bits .or .u8 (f 96) v := by rw [put1_at, if_pos rfl]
    have e7 : put1 (if f 96 = 0 then put1 f 97 0 else f) 96 (bits .or .u8 (f 96) v) 97 = if f 96 = 0 then 0 else f 97 := by
      rw [put1_ne (by decide)]; split
      · rw [put1_at, if_pos rfl]
      · rfl
    rw [e6, e7]
    refine ⟨by split <;> omega, ?_, c3, c4, c5⟩
    rintro ⟨z1, z2⟩
    by_cases z : f 96 = 0
    · rw [if_pos z] at z1; omega
    · have hb : ∀ k, k < 8 → bitN (f 96) k = bitN 0 k := fun k hk => by
        have h0 : bitN (bits .or .u8 (f 96) v) k = 0 := by rw [z2]; simp [bitN]
        rw [bitN_or (I.r 96).1 (I.r 96).2 v0 v1 k] at h0
        rcases bitN_01 (f 96) k with q | q
        · rw [q]; simp [bitN]
        · rw [if_pos (Or.inl q)] at h0; omega
      exact z (byte_ext (I.r 96).1 (I.r 96).2 (by omega) (by omega) hb)
  · split
    · simp only []
      have e (j : Nat) (h : j ≠ 98) : put1 f 98 v j = f j := put1_ne h
      refine ⟨I.r.put1 _ v0 v1, ?_, by rw [e 101 (by omega), e 102 (by omega), e 99 (by omega)]; exact I.e2, by rw [e 101 (by omega), e 102 (by omega), e 99 (by omega)]; exact I.e1⟩
      unfold canP
      rw [e 96 (by omega), e 97 (by omega), e 101 (by omega), e 102 (by omega), e 103 (by omega), e 100 (by omega)]
      exact ⟨c1, c2, c3, c4, c5⟩
    · split
      · exact I
      · rename_i i hi
        have hlt := plc_lt hi
        simp only []
        have e (j : Nat) (h : 96 ≤ j) : put1 f i v j = f j := put1_ne (by omega)
        refine ⟨I.r.put1 _ v0 v1, ?_, by rw [e 101 (by omega), e 102 (by omega), e 99 (by omega)]; exact I.e2, by rw [e 101 (by omega), e 102 (by omega), e 99 (by omega)]; exact I.e1⟩
        unfold canP
        rw [e 96 (by omega), e 97 (by omega), e 101 (by omega), e 102 (by omega), e 103 (by omega), e 100 (by omega)]
        exact ⟨c1, c2, c3, c4, c5⟩
end Go.Proofs.Ytkeikkkcmackeaa
