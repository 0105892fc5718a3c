/- A table under way, in memory. -/
import Derived.Test.YtkeikkkcmackeaaTabA
namespace Go.Proofs.Ytkeikkkcmackeaa
open Go.RowKit
set_option linter.unusedVariables false
set_option linter.unusedSimpArgs false

/-- The bytes so far, the lines so far. -/
structure TI (w0 w : World) (bv lv : Value) (bs : List Int) (ls : List (List Int)) (lvs : List Value) : Prop where
  b : Row w w0.heap.size bv bs
  l : Rows2 w w0.heap.size lv lvs
  len : lvs.length = ls.length
  each : ∀ (k : Nat) x xs, lvs[k]? = some x → ls[k]? = some xs → Row w w0.heap.size x xs ∧ Dj x bv
  bel : Below w0.heap.size w0 w
/-- A line under way. -/
structure TC (w0 w : World) (bv lv : Value) (bs : List Int) (ls : List (List Int)) (lvs : List Value) (cv : Value) (cur : List Int) : Prop where
  t : TI w0 w bv lv bs ls lvs
  c : Row w w0.heap.size cv cur
  db : Dj cv bv
  dl : ∀ (k : Nat) x, lvs[k]? = some x → Dj x cv
section
variable {w0 w w1 w2 : World} {bv lv cv v' : Value} {bs cur : List Int} {ls : List (List Int)} {lvs : List Value}
theorem TI.below (h : TI w0 w bv lv bs ls lvs) (hb : Below w.heap.size w w1) : TI w0 w1 bv lv bs ls lvs :=
  ⟨own_below h.b hb, own_below h.l hb, h.len, fun k x xs a b => ⟨own_below (h.each k x xs a b).1 hb, (h.each k x xs a b).2⟩, h.bel.trans (hb.mono h.bel.size)⟩
theorem TC.below (h : TC w0 w bv lv bs ls lvs cv cur) (hb : Below w.heap.size w w1) : TC w0 w1 bv lv bs ls lvs cv cur := ⟨h.t.below hb, own_below h.c hb, h.db, h.dl⟩
theorem TI.start (w : World) : TI w w (.slice none 0 0) (.slice none 0 0) [] [] [] :=
  ⟨World.ownsRow_nil _ _ _ _, World.ownsRow_nil _ _ _ _, rfl, fun k x xs h => by simp at h, Below.refl _ _⟩
theorem TI.line (h : TI w0 w bv lv bs ls lvs) : TC w0 w bv lv bs ls lvs (.slice none 0 0) [] :=
  ⟨h, World.ownsRow_nil _ _ _ _, (fun g hg => by cases hg), (fun k x hx => (fun g _ hg => by cases hg))⟩
theorem each_own (h : TI w0 w bv lv bs ls lvs) {k : Nat} {x : Value} (hx : lvs[k]? = some x) : ∃ xs, ls[k]? = some xs ∧ Row w w0.heap.size x xs ∧ Dj x bv := by
  have hk : k < lvs.length := (List.getElem?_eq_some_iff.mp hx).1
  have hk2 : k < ls.length := by rw [← h.len]; exact hk
  exact ⟨ls[k], by simp [hk2], h.each k x _ hx (by simp [hk2])⟩
theorem row_base (h : Row w w0.heap.size bv bs) (k : Nat) (e : bv.ownBlock = some k) : w0.heap.size ≤ k := by
  rcases h.2 with ⟨rfl, _⟩ | ⟨g, cap, cur, rfl, hb, _⟩
  · cases e
  · cases e; exact hb
theorem rows_base (h : Rows2 w w0.heap.size bv lvs) (k : Nat) (e : bv.ownBlock = some k) : w0.heap.size ≤ k := by
  rcases h.2 with ⟨rfl, _⟩ | ⟨g, cap, cur, rfl, hb, _⟩
  · cases e
  · cases e; exact hb
theorem row_push {x : Int} (h : w2.ownsRow w0.heap.size 5 1 v' (bs.length + 1) (bs.map (Value.int .u8) ++ [.int .u8 x])) : Row w2 w0.heap.size v' (bs ++ [x]) := by
  unfold Row; simpa using h
theorem row_one (h : Row w w0.heap.size bv bs) : bv.oneCell' = true := by
  rcases h.2 with ⟨rfl, _⟩ | ⟨g, cap, cur, rfl, hb, _⟩ <;> rfl
theorem row_slice (h : Row w w0.heap.size bv bs) : ∃ ao c, bv = .slice ao bs.length c := by
  have hh := h.2
  rcases hh with ⟨rfl, e⟩ | ⟨g, cap, cur, rfl, hb, _⟩
  · exact ⟨none, 0, by rw [e]⟩
  · exact ⟨_, cap, rfl⟩
/-- A byte more. -/
theorem TI.byte (h : TI w0 w bv lv bs ls lvs) {x : Int} (own : w2.ownsRow w0.heap.size 5 1 v' (bs.length + 1) (bs.map (Value.int .u8) ++ [.int .u8 x])) (hg : w.grownBy w2 bv.ownBlock)
    (hat : v'.ownBlock = bv.ownBlock ∨ v'.ownBlock = some w.heap.size) : TI w0 w2 v' lv (bs ++ [x]) ls lvs := by
  refine ⟨row_push own, own_grown h.l hg ?_, h.len, fun k x xs a b => ?_, h.bel.grown hg h.bel.size (fun k e => row_base h.b k e)⟩
  · intro g e hr
    exact (own_ne h.l h.b (by decide)) g e hr
  · obtain ⟨r, d⟩ := h.each k x xs a b
    exact ⟨own_grown r hg (fun g e hr => d g e hr), d.grown (fun g e => own_lt r e) hat⟩
theorem TC.byte (h : TC w0 w bv lv bs ls lvs cv cur) {x : Int} (own : w2.ownsRow w0.heap.size 5 1 v' (bs.length + 1) (bs.map (Value.int .u8) ++ [.int .u8 x])) (hg : w.grownBy w2 bv.ownBlock)
    (hat : v'.ownBlock = bv.ownBlock ∨ v'.ownBlock = some w.heap.size) : TC w0 w2 v' lv (bs ++ [x]) ls lvs cv cur :=
  ⟨h.t.byte own hg hat, own_grown h.c hg (fun g e hr => h.db g e hr), h.db.grown (fun g e => own_lt h.c e) hat, h.dl⟩
/-- A byte of the line more. -/
theorem TC.more (h : TC w0 w bv lv bs ls lvs cv cur) {x : Int} (own : w2.ownsRow w0.heap.size 5 1 v' (cur.length + 1) (cur.map (Value.int .u8) ++ [.int .u8 x])) (hg : w.grownBy w2 cv.ownBlock)
    (hat : v'.ownBlock = cv.ownBlock ∨ v'.ownBlock = some w.heap.size) : TC w0 w2 bv lv bs ls lvs v' (cur ++ [x]) := by
  refine ⟨⟨own_grown h.t.b hg (fun g e hr => h.db g hr e), own_grown h.t.l hg ?_, h.t.len, fun k x xs a b => ?_, h.t.bel.grown hg h.t.bel.size (fun k e => row_base h.c k e)⟩, row_push own, ?_, fun k x hx => ?_⟩
  · intro g e hr
    exact (own_ne h.t.l h.c (by decide)) g e hr
  · obtain ⟨r, d⟩ := h.t.each k x xs a b
    exact ⟨own_grown r hg (fun g e hr => h.dl k x a g e hr), d⟩
  · exact (h.db.symm.grown (fun g e => own_lt h.t.b e) hat).symm
  · obtain ⟨xs, _, r, _⟩ := each_own h.t hx
    exact (h.dl k x hx).grown (fun g e => own_lt r e) hat
/-- The line is laid. -/
theorem TC.lay (h : TC w0 w bv lv bs ls lvs cv cur) (own : w2.ownsRow w0.heap.size 40 1 v' (lvs.length + 1) (lvs ++ [cv])) (hg : w.grownBy w2 lv.ownBlock) : TI w0 w2 bv v' bs (ls ++ [cur]) (lvs ++ [cv]) := by
  have ne := own_ne h.t.b h.t.l (by decide)
  refine ⟨own_grown h.t.b hg (fun g e hr => ne g e hr), by unfold Rows2; simpa using own, by simp [h.t.len], fun k x xs a b => ?_, h.t.bel.grown hg h.t.bel.size (fun k e => rows_base h.t.l k e)⟩
  rcases Nat.lt_or_ge k lvs.length with hk | hk
  · rw [List.getElem?_append_left hk] at a
    rw [List.getElem?_append_left (by rw [← h.t.len]; exact hk)] at b
    obtain ⟨r, d⟩ := h.t.each k x xs a b
    exact ⟨own_grown r hg (fun g e hr => (own_ne r h.t.l (by decide)) g e hr), d⟩
  · have hl := h.t.len
    rw [List.getElem?_append_right hk] at a
    rw [List.getElem?_append_right (by omega)] at b
    have hk1 : k - lvs.length = 0 := by
      have := (List.getElem?_eq_some_iff.mp a).1
      simpa using this
    rw [hk1] at a
    rw [show k - ls.length = 0 by omega] at b
    simp at a b
    subst a b
    exact ⟨own_grown h.c hg (fun g e hr => (own_ne h.c h.t.l (by decide)) g e hr), h.db⟩
end
end Go.Proofs.Ytkeikkkcmackeaa
