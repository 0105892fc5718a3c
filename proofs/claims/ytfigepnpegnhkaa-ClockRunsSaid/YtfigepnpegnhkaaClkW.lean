/- The contracts of Add and Set as functions; a clock beside the document's. -/
import Derived.Test.YtfigepnpegnhkaaClkV
namespace Go.Proofs.Ytfigepnpegnhkaa
open Go.RowKit
set_option linter.unusedVariables false
set_option linter.unusedSimpArgs false
set_option maxRecDepth 100000
/-- What Add answers. -/
def addV (n : Nat) (S T : Nat → Int) (i k : Int) : Int :=
  if i < 0 ∨ (n : Int) ≤ i then 3 else if k < 0 ∨ 1073741824 < k then 2 else if 1152921504606846976 < T i.toNat + S i.toNat * k then 4 else 0
def addT (n : Nat) (S T : Nat → Int) (i k : Int) : Nat → Int :=
  if addV n S T i k = 0 then fun j => if j = i.toNat then T i.toNat + S i.toNat * k else T j else T
open Classical in
/-- What Set answers. -/
noncomputable def setV (n m : Nat) (f : Nat → Int) : Int :=
  if m ≠ n ∨ ∃ j, j < n ∧ f j < 0 then 2 else if ∃ j, j < n ∧ 1152921504606846976 < f j then 4 else 0
noncomputable def setT (n m : Nat) (f T : Nat → Int) : Nat → Int := if setV n m f = 0 then f else T
theorem setV_bad {n m : Nat} {f : Nat → Int} {c : Int} (h : setC n m f c) : setV n m f = c ∧ c ≠ 0 := by
  rcases h with ⟨rfl, h⟩ | ⟨rfl, rfl, h, h2⟩
  · refine ⟨?_, by decide⟩
    unfold setV; rw [if_pos (by rcases h with h | h; exact Or.inl h; exact Or.inr h)]
  · refine ⟨?_, by decide⟩
    unfold setV
    rw [if_neg (fun e => by rcases e with e | ⟨j, hj, e⟩; exact e rfl; have := h j hj; omega), if_pos h2]
theorem setV_ok {n m : Nat} {f : Nat → Int} (h : setOk n m f) : setV n m f = 0 := by
  obtain ⟨rfl, h⟩ := h
  unfold setV
  rw [if_neg (fun e => by rcases e with e | ⟨j, hj, e⟩; exact e rfl; have := h j hj; omega), if_neg (fun ⟨j, hj, e⟩ => by have := h j hj; omega)]
def Tok (n : Nat) (T : Nat → Int) : Prop := ∀ j, j < n → 0 ≤ T j ∧ T j ≤ 1152921504606846976
theorem addT_ok {n : Nat} {S T : Nat → Int} (sc : ∀ j, j < n → 1 ≤ S j ∧ S j ≤ 16777216) (h : Tok n T) (i k : Int) : Tok n (addT n S T i k) := by
  unfold addT
  split
  · rename_i e
    unfold addV at e
    split at e
    · cases e
    · split at e
      · cases e
      · split at e
        · cases e
        · rename_i h1 h2 h3
          intro j hj
          show 0 ≤ (if j = i.toNat then _ else _) ∧ (if j = i.toNat then _ else _) ≤ _
          by_cases c : j = i.toNat
          · rw [if_pos c]
            have h4 : i.toNat < n := by omega
            have h5 := (h _ h4).1
            have h6 := (sc _ h4).1
            have h7 : 0 ≤ S i.toNat * k := Int.mul_nonneg (by omega) (by omega)
            omega
          · rw [if_neg c]; exact h j hj
  · exact h
theorem setT_ok {n m : Nat} {f T : Nat → Int} (h : Tok n T) : Tok n (setT n m f T) := by
  unfold setT
  split
  · rename_i e
    unfold setV at e
    split at e
    · cases e
    · split at e
      · cases e
      · rename_i h1 h2
        intro j hj
        constructor
        · by_cases c : f j < 0
          · exact absurd (Or.inr ⟨j, hj, c⟩) h1
          · omega
        · by_cases c : 1152921504606846976 < f j
          · exact absurd ⟨j, hj, c⟩ h2
          · omega
  · exact h
section
variable {w : World} {g b cap n bs cs bt ct : Nat} {S T : Nat → Int}
theorem cadd_fn (C : Ck w g b cap n S T) (hn : n ≤ 16) (i k : Int) (sc : ∀ j, j < n → 1 ≤ S j ∧ S j ≤ 16777216) (tm : Tok n T) :
    Calls Try.prog 14 #[.pointer (some ⟨g, 0, none⟩), .int .i64 i, .int .i64 k] w (fun e w' => e = .returned (.int .i64 (addV n S T i k)) ∧ Ck w' g b cap n S (addT n S T i k) ∧ Upd w b w') := by
  by_cases c1 : i < 0 ∨ (n : Int) ≤ i
  · have e1 : addV n S T i k = 3 := by unfold addV; rw [if_pos c1]
    have e2 : addT n S T i k = T := by unfold addT; rw [e1]; rfl
    rw [e1, e2]
    refine (add_bad C i k c1 hn).mono ?_
    rintro e w' ⟨rfl, hb⟩
    exact ⟨rfl, C.kept hb, Upd.ofBelow hb _⟩
  · obtain ⟨m, rfl⟩ : ∃ m : Nat, i = m := ⟨i.toNat, by omega⟩
    have hm : m < n := by omega
    by_cases c2 : k < 0 ∨ 1073741824 < k
    · have e1 : addV n S T m k = 2 := by unfold addV; rw [if_neg c1, if_pos c2]
      have e2 : addT n S T m k = T := by unfold addT; rw [e1]; rfl
      rw [e1, e2]
      refine (add_arg C m hm hn k c2).mono ?_
      rintro e w' ⟨rfl, hb⟩
      exact ⟨rfl, C.kept hb, Upd.ofBelow hb _⟩
    · refine (add_all C m hm hn k (by omega) (by omega) sc tm).mono ?_
      rintro e w' (⟨h, rfl, hb⟩ | ⟨h, rfl, ck, u⟩)
      · have e1 : addV n S T m k = 4 := by unfold addV; rw [if_neg c1, if_neg c2]; exact if_pos h
        have e2 : addT n S T m k = T := by unfold addT; rw [e1]; rfl
        rw [e1, e2]
        exact ⟨rfl, C.kept hb, Upd.ofBelow hb _⟩
      · have e1 : addV n S T m k = 0 := by unfold addV; rw [if_neg c1, if_neg c2, if_neg (by show ¬ 1152921504606846976 < T m + S m * k; omega)]
        have e2 : addT n S T m k = fun j => if j = m then T m + S m * k else T j := by unfold addT; rw [e1]; rfl
        rw [e1, e2]
        exact ⟨rfl, ck, u⟩
theorem dadd_fn (K : Rk w bs bt n S T) (hn : n ≤ 16) (i k : Int) (sc : ∀ j, j < n → 1 ≤ S j ∧ S j ≤ 16777216) (tm : Tok n T) :
    Calls Try.prog 23 #[rkV bs cs bt ct n, .int .i64 i, .int .i64 k] w (fun e w' => e = .returned (.int .i64 (addV n S T i k)) ∧ Rk w' bs bt n S (addT n S T i k) ∧ Upd w bt w') := by
  refine (radd_any K hn i k sc tm).mono ?_
  rintro e w' (⟨c1, rfl, hb⟩ | ⟨c1, c1', c2, rfl, hb⟩ | ⟨m, rfl, hm, k0, k1, ⟨h, rfl, hb⟩ | ⟨h, rfl, ck, u⟩⟩)
  · have e1 : addV n S T i k = 3 := by unfold addV; rw [if_pos c1]
    have e2 : addT n S T i k = T := by unfold addT; rw [e1]; rfl
    rw [e1, e2]
    exact ⟨rfl, K.kept hb, Upd.ofBelow hb _⟩
  · have e1 : addV n S T i k = 2 := by unfold addV; rw [if_neg (by omega), if_pos c2]
    have e2 : addT n S T i k = T := by unfold addT; rw [e1]; rfl
    rw [e1, e2]
    exact ⟨rfl, K.kept hb, Upd.ofBelow hb _⟩
  · have e1 : addV n S T m k = 4 := by unfold addV; rw [if_neg (by omega), if_neg (by omega)]; exact if_pos h
    have e2 : addT n S T m k = T := by unfold addT; rw [e1]; rfl
    rw [e1, e2]
    exact ⟨rfl, K.kept hb, Upd.ofBelow hb _⟩
  · have e1 : addV n S T m k = 0 := by unfold addV; rw [if_neg (by omega), if_neg (by omega), if_neg (by show ¬ 1152921504606846976 < T m + S m * k; omega)]
    have e2 : addT n S T m k = fun j => if j = m then T m + S m * k else T j := by unfold addT; rw [e1]; rfl
    rw [e1, e2]
    exact ⟨rfl, ck, u⟩
theorem cset_fn (C : Ck w g b cap n S T) (h1 : 1 ≤ n) (hn : n ≤ 16) (v : Value) (m : Nat) (f : Nat → Int) (Sv : Sees w .i64 v m f) (hm : m ≤ 17592186044416) (hb : ∀ ao c, v = .slice (some ao) m c → ao.block ≠ b) :
    Calls Try.prog 11 #[.pointer (some ⟨g, 0, none⟩), v] w (fun e w' => e = .returned (.int .i64 (setV n m f)) ∧ Ck w' g b cap n S (setT n m f T) ∧ Upd w b w') := by
  refine (set_any C h1 hn v m f Sv hm hb).mono ?_
  rintro e w' (⟨c, hc, rfl, hb⟩ | ⟨ok, rfl, ck, u⟩)
  · obtain ⟨e1, h0⟩ := setV_bad hc
    have e2 : setT n m f T = T := by unfold setT; rw [e1, if_neg h0]
    rw [e1, e2]
    exact ⟨rfl, C.kept hb, Upd.ofBelow hb _⟩
  · have e1 := setV_ok ok
    have e2 : setT n m f T = f := by unfold setT; rw [e1, if_pos rfl]
    rw [e1, e2]
    exact ⟨rfl, ck, u⟩
theorem dset_fn (K : Rk w bs bt n S T) (h1 : 1 ≤ n) (hn : n ≤ 16) (v : Value) (m : Nat) (f : Nat → Int) (Sv : Sees w .i64 v m f) (hb : 1 ≤ m → ∀ ao c, v = .slice (some ao) m c → ao.block ≠ bt) :
    Calls Try.prog 24 #[rkV bs cs bt ct n, v] w (fun e w' => e = .returned (.int .i64 (setV n m f)) ∧ Rk w' bs bt n S (setT n m f T) ∧ Upd w bt w') := by
  refine (rset_any K h1 hn v m f Sv hb).mono ?_
  rintro e w' (⟨c, hc, rfl, hb⟩ | ⟨ok, rfl, ck, u⟩)
  · obtain ⟨e1, h0⟩ := setV_bad hc
    have e2 : setT n m f T = T := by unfold setT; rw [e1, if_neg h0]
    rw [e1, e2]
    exact ⟨rfl, K.kept hb, Upd.ofBelow hb _⟩
  · have e1 := setV_ok ok
    have e2 : setT n m f T = f := by unfold setT; rw [e1, if_pos rfl]
    rw [e1, e2]
    exact ⟨rfl, ck, u⟩
end
/-- Blocks that are apart. -/
structure Apart (B g b bs bt D : Nat) : Prop where
  b1 : B ≤ b
  b2 : B ≤ bt
  n1 : b ≠ bs
  n2 : b ≠ bt
  n3 : b ≠ D
  n4 : bt ≠ g
  n5 : bt ≠ D
/-- A clock beside the document's. -/
structure Lq (W0 : World) (D g b cap n bs cs bt ct : Nat) (S T1 T2 : Nat → Int) (w : World) : Prop where
  ck : Ck w g b cap n S T1
  rk : Rk w bs bt n S T2
  d0 : w.cell? ⟨D, 0, none⟩ = some (.slice (some ⟨bs, 0, none⟩) n cs)
  d1 : w.cell? ⟨D, 1, none⟩ = some (.slice (some ⟨bt, 0, none⟩) n ct)
  bel : Below W0.heap.size W0 w
section
variable {W0 w w' : World} {D g b cap n bs cs bt ct : Nat} {S T1 T2 T1' T2' : Nat → Int}
theorem Lq.kept (h : Lq W0 D g b cap n bs cs bt ct S T1 T2 w) (k : Below w.heap.size w w') : Lq W0 D g b cap n bs cs bt ct S T1 T2 w' :=
  ⟨h.ck.kept k, h.rk.kept k, keepC k h.d0, keepC k h.d1, h.bel.trans (k.mono h.bel.size)⟩
theorem Lq.prog (h : Lq W0 D g b cap n bs cs bt ct S T1 T2 w) (a : Apart W0.heap.size g b bs bt D) (ck : Ck w' g b cap n S T1') (u : Upd w b w') : Lq W0 D g b cap n bs cs bt ct S T1' T2 w' :=
  ⟨ck, ⟨u.arr h.rk.sc (Ne.symm a.n1), u.arr h.rk.tm (Ne.symm a.n2), h.rk.ne⟩, (u.cell (World.block_lt_of_cell? _ _ h.d0) (Ne.symm a.n3)).trans h.d0, (u.cell (World.block_lt_of_cell? _ _ h.d1) (Ne.symm a.n3)).trans h.d1, u.out h.bel a.b1⟩
theorem Lq.doc (h : Lq W0 D g b cap n bs cs bt ct S T1 T2 w) (a : Apart W0.heap.size g b bs bt D) (rk : Rk w' bs bt n S T2') (u : Upd w bt w') : Lq W0 D g b cap n bs cs bt ct S T1 T2' w' :=
  ⟨⟨(u.cell (World.block_lt_of_cell? _ _ h.ck.hd) (Ne.symm a.n4)).trans h.ck.hd, h.ck.ne, u.arr h.ck.arr a.n2⟩, rk, (u.cell (World.block_lt_of_cell? _ _ h.d0) (Ne.symm a.n5)).trans h.d0, (u.cell (World.block_lt_of_cell? _ _ h.d1) (Ne.symm a.n5)).trans h.d1, u.out h.bel a.b2⟩
/-- What has changed is a block that is none of these. -/
theorem Lq.else_ {x : Nat} (h : Lq W0 D g b cap n bs cs bt ct S T1 T2 w) (u : Upd w x w') (hx : W0.heap.size ≤ x) (x1 : b ≠ x) (x2 : g ≠ x) (x3 : bs ≠ x) (x4 : bt ≠ x) (x5 : D ≠ x) : Lq W0 D g b cap n bs cs bt ct S T1 T2 w' :=
  ⟨⟨(u.cell (World.block_lt_of_cell? _ _ h.ck.hd) x2).trans h.ck.hd, h.ck.ne, u.arr h.ck.arr x1⟩, ⟨u.arr h.rk.sc x3, u.arr h.rk.tm x4, h.rk.ne⟩, (u.cell (World.block_lt_of_cell? _ _ h.d0) x5).trans h.d0, (u.cell (World.block_lt_of_cell? _ _ h.d1) x5).trans h.d1, u.out h.bel hx⟩
end
/-- With the call that was read, and (where P) a copy of its times. -/
structure Lo (P : Prop) (W0 : World) (D g b cap n bs cs bt ct O : Nat) (os : Array Value) (gl q : Nat) (lf : Nat → Int) (S T1 T2 : Nat → Int) (w : World) : Prop where
  lq : Lq W0 D g b cap n bs cs bt ct S T1 T2 w
  o : Blk w O 53 os
  l : P → Arr w .i64 2 gl q lf
section
variable {P : Prop} {W0 w w' : World} {D g b cap n bs cs bt ct O gl q : Nat} {os : Array Value} {lf S T1 T2 T1' T2' : Nat → Int}
theorem Lo.prog (h : Lo P W0 D g b cap n bs cs bt ct O os gl q lf S T1 T2 w) (a : Apart W0.heap.size g b bs bt D) (x1 : O ≠ b) (x2 : P → gl ≠ b) (ck : Ck w' g b cap n S T1') (u : Upd w b w') : Lo P W0 D g b cap n bs cs bt ct O os gl q lf S T1' T2 w' :=
  ⟨h.lq.prog a ck u, u.blk h.o x1, fun p => u.arr (h.l p) (x2 p)⟩
theorem Lo.doc (h : Lo P W0 D g b cap n bs cs bt ct O os gl q lf S T1 T2 w) (a : Apart W0.heap.size g b bs bt D) (x1 : O ≠ bt) (x2 : P → gl ≠ bt) (rk : Rk w' bs bt n S T2') (u : Upd w bt w') : Lo P W0 D g b cap n bs cs bt ct O os gl q lf S T1 T2' w' :=
  ⟨h.lq.doc a rk u, u.blk h.o x1, fun p => u.arr (h.l p) (x2 p)⟩
theorem Lo.kept (h : Lo P W0 D g b cap n bs cs bt ct O os gl q lf S T1 T2 w) (k : Below w.heap.size w w') : Lo P W0 D g b cap n bs cs bt ct O os gl q lf S T1 T2 w' := ⟨h.lq.kept k, h.o.kept k, fun p => (h.l p).kept k⟩
theorem Lo.drew (h : Lo P W0 D g b cap n bs cs bt ct O os gl q lf S T1 T2 w) : Lo P W0 D g b cap n bs cs bt ct O os gl q lf S T1 T2 w.drew := h.kept (Below.refl _ _).drew
end
/-- The cells that are read. -/
def LoC (w : World) (D O bs cs bt ct n : Nat) (x0 x1 x2 : Int) (v : Value) : Prop :=
  w.cell? ⟨D, 0, none⟩ = some (.slice (some ⟨bs, 0, none⟩) n cs) ∧ w.cell? ⟨D, 1, none⟩ = some (.slice (some ⟨bt, 0, none⟩) n ct) ∧
  w.cell? ⟨O, 0, none⟩ = some (.int .i64 x0) ∧ w.cell? ⟨O, 1, none⟩ = some (.int .i64 x1) ∧ w.cell? ⟨O, 2, none⟩ = some (.int .i64 x2) ∧ w.cell? ⟨O, 3, none⟩ = some v
theorem Lo.cells {P : Prop} {W0 w : World} {D g b cap n bs cs bt ct O gl q : Nat} {lf S T1 T2 : Nat → Int} {x0 x1 x2 : Int} {v : Value} (h : Lo P W0 D g b cap n bs cs bt ct O #[.int .i64 x0, .int .i64 x1, .int .i64 x2, v] gl q lf S T1 T2 w) : LoC w D O bs cs bt ct n x0 x1 x2 v :=
  ⟨h.lq.d0, h.lq.d1, h.o.cell 0, h.o.cell 1, h.o.cell 2, h.o.cell 3⟩
end Go.Proofs.Ytfigepnpegnhkaa
