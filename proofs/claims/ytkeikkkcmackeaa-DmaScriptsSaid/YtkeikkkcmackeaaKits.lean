/- Small lemmas that several texts use; of whatever program. 'w.more x': the world w with some more blocks behind it, and some draws made: what a call leaves that changes nothing of what was there. A block that is known whole; of whatever program. -/
import Derived.WalkKit
import Derived.WalkLawsBesides
import Derived.WalkSpells
import Derived.Deep.QuietTactic
import Derived.BigQuiet
import Derived.Deep.RegionWith
import Derived.Lib.Hide
import Derived.Handy
import Derived.Laws.Rows
import Derived.Laws.OwnMore
namespace Go.Proofs.Ytkeikkkcmackeaa
open Go.RowKit

/-- What a call keeps, and what the next one keeps. -/
theorem belowStep {w a b : World} (h : Below w.heap.size w a) (k : Below a.heap.size a b) : Below w.heap.size w b := h.trans (k.mono h.size)

theorem quiet_flip {P : Program} {f : FuncId} {args : Array Value} {w : World} {n : Nat} {v : Value}
    (h : Calls P f args (w.drewN n) fun e w' => e = .returned v ∧ w.drewN n = w') : Calls P f args (w.drewN n) fun e w'' => e = .returned v ∧ ∃ m, w'' = w.drewN m :=
  h.mono fun _ _ ⟨he, hm⟩ => ⟨he, n, hm.symm⟩

/-- All old cells and marks read as before. -/
theorem bcell {W w1 : World} (hb : Below W.heap.size W w1) : (∀ b o, b < W.heap.size → w1.cell? ⟨b, o, none⟩ = W.cell? ⟨b, o, none⟩) ∧ (∀ b o, b < W.heap.size → w1.frozen? ⟨b, o, none⟩ = W.frozen? ⟨b, o, none⟩) :=
  ⟨fun b o h => hb.cell (p := ⟨b, o, none⟩) h, fun b o h => hb.frozen (p := ⟨b, o, none⟩) h⟩

/-- More blocks, and how many draws there were. -/
structure Ext where
  objs : Array Obj
  drawn : Nat

instance : Inhabited Ext := ⟨⟨#[], 0⟩⟩

/-- The world with them. -/
def moreOf (w : World) (x : Ext) : World := { w with heap := w.heap ++ x.objs, drawn := x.drawn }

@[go_sem, simp] theorem size_more (w : World) (x : Ext) : (moreOf w x).heap.size = w.heap.size + x.objs.size := by simp [moreOf]
theorem heap_more (w : World) (x : Ext) {k : Nat} (h : k < w.heap.size) : (moreOf w x).heap[k]? = w.heap[k]? := by
  show (w.heap ++ x.objs)[k]? = _
  rw [Array.getElem?_append_left h]

/-! Which block is older: the later number is the elder one and more. -/
@[go_sem, simp] theorem older2 (n p0 p1 : Nat) : (n < n + p0 + p1) = (0 < p0 ∨ 0 < p1) := by apply propext; omega
@[go_sem, simp] theorem older3 (n p0 p1 p2 : Nat) : (n < n + p0 + p1 + p2) = (0 < p0 ∨ 0 < p1 ∨ 0 < p2) := by apply propext; omega
@[go_sem, simp] theorem older4 (n p0 p1 p2 p3 : Nat) : (n < n + p0 + p1 + p2 + p3) = (0 < p0 ∨ 0 < p1 ∨ 0 < p2 ∨ 0 < p3) := by apply propext; omega
@[go_sem, simp] theorem older5 (n p0 p1 p2 p3 p4 : Nat) : (n < n + p0 + p1 + p2 + p3 + p4) = (0 < p0 ∨ 0 < p1 ∨ 0 < p2 ∨ 0 < p3 ∨ 0 < p4) := by apply propext; omega
@[go_sem, simp] theorem older6 (n p0 p1 p2 p3 p4 p5 : Nat) : (n < n + p0 + p1 + p2 + p3 + p4 + p5) = (0 < p0 ∨ 0 < p1 ∨ 0 < p2 ∨ 0 < p3 ∨ 0 < p4 ∨ 0 < p5) := by apply propext; omega
@[go_sem, simp] theorem older7 (n p0 p1 p2 p3 p4 p5 p6 : Nat) : (n < n + p0 + p1 + p2 + p3 + p4 + p5 + p6) = (0 < p0 ∨ 0 < p1 ∨ 0 < p2 ∨ 0 < p3 ∨ 0 < p4 ∨ 0 < p5 ∨ 0 < p6) := by apply propext; omega
@[go_sem, simp] theorem older8 (n p0 p1 p2 p3 p4 p5 p6 p7 : Nat) : (n < n + p0 + p1 + p2 + p3 + p4 + p5 + p6 + p7) = (0 < p0 ∨ 0 < p1 ∨ 0 < p2 ∨ 0 < p3 ∨ 0 < p4 ∨ 0 < p5 ∨ 0 < p6 ∨ 0 < p7) := by apply propext; omega
@[go_sem, simp] theorem older9 (n p0 p1 p2 p3 p4 p5 p6 p7 p8 : Nat) : (n < n + p0 + p1 + p2 + p3 + p4 + p5 + p6 + p7 + p8) = (0 < p0 ∨ 0 < p1 ∨ 0 < p2 ∨ 0 < p3 ∨ 0 < p4 ∨ 0 < p5 ∨ 0 < p6 ∨ 0 < p7 ∨ 0 < p8) := by apply propext; omega
@[go_sem, simp] theorem older10 (n p0 p1 p2 p3 p4 p5 p6 p7 p8 p9 : Nat) : (n < n + p0 + p1 + p2 + p3 + p4 + p5 + p6 + p7 + p8 + p9) = (0 < p0 ∨ 0 < p1 ∨ 0 < p2 ∨ 0 < p3 ∨ 0 < p4 ∨ 0 < p5 ∨ 0 < p6 ∨ 0 < p7 ∨ 0 < p8 ∨ 0 < p9) := by apply propext; omega
/-- What stands in a block that came with the others. -/
def newCell (w : World) (x : Ext) (a : Addr) : Option Value := (moreOf w x).cell? a
def newFrozen (w : World) (x : Ext) (a : Addr) : Bool := (moreOf w x).frozen? a
def newStored (w : World) (x : Ext) (a : Addr) (v : Value) : World := (moreOf w x).setCell a v
theorem cell_more_old (w : World) (x : Ext) {a : Addr} (h : a.block < w.heap.size) : (moreOf w x).cell? a = w.cell? a := World.cell?_of_block (w := w) (heap_more w x h)
theorem frozen_more_old (w : World) (x : Ext) {a : Addr} (h : a.block < w.heap.size) : (moreOf w x).frozen? a = w.frozen? a := World.frozen?_of_block (w := w) (heap_more w x h)
@[go_sem, simp] theorem cell_more (w : World) (x : Ext) (b o : Nat) (s : Option Nat) : (moreOf w x).cell? ⟨b, o, s⟩ = if b < w.heap.size then w.cell? ⟨b, o, s⟩ else newCell w x ⟨b, o, s⟩ := by
  split
  · rename_i h; exact cell_more_old w x h
  · rfl
@[go_sem, simp] theorem frozen_more (w : World) (x : Ext) (b o : Nat) (s : Option Nat) : (moreOf w x).frozen? ⟨b, o, s⟩ = if b < w.heap.size then w.frozen? ⟨b, o, s⟩ else newFrozen w x ⟨b, o, s⟩ := by
  split
  · rename_i h; exact frozen_more_old w x h
  · rfl
theorem setCell_more_old (w : World) (x : Ext) {b o : Nat} (v : Value) (h : b < w.heap.size) : (moreOf w x).setCell ⟨b, o, none⟩ v = moreOf (w.setCell ⟨b, o, none⟩ v) x := by
  simp only [moreOf, World.setCell]
  congr 1
  apply Array.ext_getElem?
  intro i
  simp only [Array.getElem?_modify, Array.getElem?_append, Array.size_modify]
  by_cases hb : b = i
  · subst hb
    simp [h]
  · simp [hb]
@[go_sem, simp] theorem setCell_more (w : World) (x : Ext) (b o : Nat) (v : Value) : (moreOf w x).setCell ⟨b, o, none⟩ v = if b < w.heap.size then moreOf (w.setCell ⟨b, o, none⟩ v) x else newStored w x ⟨b, o, none⟩ v := by
  split
  · rename_i h; exact setCell_more_old w x v h
  · rfl
/-- The same of a new block, where the kit's own laws do not see which block it is. -/
@[go_sem low] theorem cell_allocIf (w : World) (ob : Obj) (b o : Nat) (s : Option Nat) : (w.alloc ob).cell? ⟨b, o, s⟩ = if b < w.heap.size then w.cell? ⟨b, o, s⟩ else newCell w ⟨#[ob], w.drawn⟩ ⟨b, o, s⟩ := cell_more w ⟨#[ob], w.drawn⟩ b o s
@[go_sem low] theorem frozen_allocIf (w : World) (ob : Obj) (b o : Nat) (s : Option Nat) : (w.alloc ob).frozen? ⟨b, o, s⟩ = if b < w.heap.size then w.frozen? ⟨b, o, s⟩ else newFrozen w ⟨#[ob], w.drawn⟩ ⟨b, o, s⟩ := frozen_more w ⟨#[ob], w.drawn⟩ b o s
@[go_sem low] theorem setCell_allocIf (w : World) (ob : Obj) (b o : Nat) (v : Value) : (w.alloc ob).setCell ⟨b, o, none⟩ v = if b < w.heap.size then (w.setCell ⟨b, o, none⟩ v).alloc ob else newStored w ⟨#[ob], w.drawn⟩ ⟨b, o, none⟩ v := by
  split
  · rename_i h; exact World.setCell_alloc_past ob b o v h
  · rfl
@[go_sem, simp] theorem drew_more (w : World) (x : Ext) : (moreOf w x).drew = moreOf w ⟨x.objs, x.drawn + 1⟩ := rfl
theorem more_more (w : World) (x y : Ext) : moreOf (moreOf w x) y = moreOf w ⟨x.objs ++ y.objs, y.drawn⟩ := by simp [moreOf, Array.append_assoc]
@[go_sem, simp] theorem more_drew (w : World) (x : Ext) : moreOf w.drew x = moreOf w x := rfl
@[go_sem, simp] theorem more_drewN (w : World) (x : Ext) (n : Nat) : moreOf (w.drewN n) x = moreOf w x := rfl
theorem more_refl (w : World) : w = moreOf w ⟨#[], w.drawn⟩ := by simp [moreOf]

theorem below_more {w : World} (x : Ext) : Below w.heap.size w (moreOf w x) := ⟨rfl, rfl, rfl, by simp, fun _ h => heap_more w x h⟩
theorem belowMore {B : Nat} {a w : World} (h : Below B a w) (hB : B ≤ w.heap.size) (x : Ext) : Below B a (moreOf w x) := h.trans ((below_more x).mono hB)
/-- A call that changed nothing has left the world with more behind it. -/
theorem more_of_below {w w' : World} (h : Below w.heap.size w w') : ∃ x, w' = moreOf w x := by
  refine ⟨⟨w'.heap.extract w.heap.size w'.heap.size, w'.drawn⟩, ?_⟩
  have hh : w'.heap = w.heap ++ w'.heap.extract w.heap.size w'.heap.size := by
    apply Array.ext_getElem?
    intro i
    by_cases hi : i < w.heap.size
    · rw [Array.getElem?_append_left hi, h.block i hi]
    · rw [Array.getElem?_append_right (by omega), Array.getElem?_extract]
      have := h.size
      split
      · congr 1; omega
      · rw [Array.getElem?_eq_none (by omega)]
  obtain ⟨h1, h2, h3, h4, h5⟩ := h
  cases w'
  simp only [moreOf] at *
  subst h1 h2 h3
  rw [← hh]

theorem belowM {w a : World} (h : Below w.heap.size w a) (x : Ext) : Below w.heap.size w (moreOf a x) := belowMore h h.size x
theorem belowA {w a : World} (h : Below w.heap.size w a) (o : Obj) : Below w.heap.size w (a.alloc o) := h.alloc h.size o
theorem belowD {w a : World} (h : Below w.heap.size w a) : Below w.heap.size w a.drew := h.drew
theorem belowN {w a : World} (h : Below w.heap.size w a) (n : Nat) : Below w.heap.size w (a.drewN n) := below_drewN h n
theorem belowS {w a : World} (h : Below w.heap.size w a) {p : Addr} (hp : w.heap.size ≤ p.block) (v : Value) : Below w.heap.size w (a.setCell p v) := h.setCell hp v

/-- A region that draws its order, whose own operations only read and whose calls change nothing that was there: one walk in the order of the text. -/
theorem wp_region_more {P : Program} {id : Nat} {Q : Exit → Act → World → Prop} {a : Act} {w : World} {l : List Oper} (hm : P.follows .mixedOrders = true) (hB : Region.lexB .any l.toArray = true)
    (h : wpQuiet P l.toArray (fun w' => ∃ x, w' = moreOf w x) (fun a' => ∀ w', (∃ x, w' = moreOf w x) → Q .normal a' w') l a) : (Code.region id l.toArray true).wp P Q a w :=
  wp_region_quiet (C := fun w' => ∃ x, w' = moreOf w x) hm hB ⟨⟨#[], w.drawn + 1⟩, by simp [moreOf]⟩ (by simpa using h)

/-- A contract, met in the world 'w and more'. -/
theorem quiet_more {P : Program} {f : FuncId} {args : Array Value} {w : World} {x : Ext} {v : Value}
    (h : Calls P f args (moreOf w x) fun e w' => e = .returned v ∧ Below (moreOf w x).heap.size (moreOf w x) w') : Calls P f args (moreOf w x) fun e w'' => e = .returned v ∧ ∃ y, w'' = moreOf w y :=
  h.mono fun _ _ ⟨he, hb⟩ => by
    obtain ⟨y, rfl⟩ := more_of_below hb
    exact ⟨he, _, more_more w x y⟩

end Go.Proofs.Ytkeikkkcmackeaa

namespace Go.Proofs.Ytkeikkkcmackeaa
open Go.RowKit

/-- Block g is just these cells of type t, none of them frozen. -/
def Blk (w : World) (g : Nat) (t : TypeId) (cs : Array Value) : Prop := w.heap[g]? = some (.cells cs t (0, 0))

section
variable {w w' : World} {g : Nat} {t : TypeId} {cs : Array Value}
theorem Blk.lt (h : Blk w g t cs) : g < w.heap.size := by
  rcases Nat.lt_or_ge g w.heap.size with k | k
  · exact k
  · unfold Blk at h; rw [Array.getElem?_eq_none k] at h; cases h
theorem Blk.cell (h : Blk w g t cs) (i : Nat) : w.cell? ⟨g, i, none⟩ = cs[i]? := by
  unfold Blk at h; simp [World.cell?, h]
theorem Blk.frozen (h : Blk w g t cs) (i : Nat) : w.frozen? ⟨g, i, none⟩ = false := by
  unfold Blk at h; simp [World.frozen?, h]
theorem Blk.new (w : World) (t : TypeId) (cs : Array Value) : Blk (w.alloc (.cells cs t)) w.heap.size t cs := by
  show (w.heap.push _)[w.heap.size]? = _
  simp
theorem Blk.alloc (h : Blk w g t cs) (o : Obj) : Blk (w.alloc o) g t cs := (Below.heap_alloc w o g h.lt).trans h
theorem Blk.drew (h : Blk w g t cs) : Blk w.drew g t cs := h
theorem Blk.drewN (h : Blk w g t cs) (n : Nat) : Blk (w.drewN n) g t cs := h
theorem Blk.more (h : Blk w g t cs) (x : Ext) : Blk (moreOf w x) g t cs := (heap_more w x h.lt).trans h
theorem Blk.below {B : Nat} (h : Blk w g t cs) (hb : Below B w w') (hg : g < B) : Blk w' g t cs := (hb.block g hg).trans h
theorem Blk.kept (h : Blk w g t cs) (hb : Below w.heap.size w w') : Blk w' g t cs := h.below hb h.lt
theorem Blk.set_ (h : Blk w g t cs) (i : Nat) (u : Value) : Blk (w.setCell ⟨g, i, none⟩ u) g t (cs.setIfInBounds i u) := by
  unfold Blk at *
  simp only [World.setCell, Array.getElem?_modify, ↓reduceIte, h, Option.map_some]
  rfl
theorem Blk.other (h : Blk w g t cs) {p : Addr} (hp : p.block ≠ g) (u : Value) : Blk (w.setCell p u) g t cs := by
  unfold Blk at *
  rw [Below.heap_setCell w p u g (fun e => hp e.symm)]
  exact h
end

/-- The numbers of a row of bytes (or others): cell i holds f i, for each i below n. -/
def Nums (w : World) (k : IntKind) (g n : Nat) (f : Nat → Int) : Prop := ∀ i, i < n → w.cell? ⟨g, i, none⟩ = some (.int k (f i))
section
variable {w w' : World} {k : IntKind} {g n : Nat} {f : Nat → Int}
theorem Nums.lt (h : Nums w k g n f) (hn : 0 < n) : g < w.heap.size := World.block_lt_of_cell? _ _ (h 0 hn)
theorem Nums.alloc (h : Nums w k g n f) (o : Obj) : Nums (w.alloc o) k g n f := fun i hi => by
  rw [← h i hi]; exact World.cell?_alloc_lt w o _ (World.block_lt_of_cell? _ _ (h i hi))
theorem Nums.more (h : Nums w k g n f) (x : Ext) : Nums (moreOf w x) k g n f := fun i hi => by
  rw [← h i hi]; exact cell_more_old w x (World.block_lt_of_cell? _ _ (h i hi))
theorem Nums.below {B : Nat} (h : Nums w k g n f) (hb : Below B w w') (hg : g < B) : Nums w' k g n f := fun i hi => by
  rw [← h i hi]; exact hb.cell (p := ⟨g, i, none⟩) hg
theorem Nums.kept (h : Nums w k g n f) (hb : Below w.heap.size w w') : Nums w' k g n f := fun i hi => by
  rw [← h i hi]; exact hb.cell (p := ⟨g, i, none⟩) (World.block_lt_of_cell? _ _ (h i hi))
theorem Nums.other (h : Nums w k g n f) {p : Addr} (hp : p.block ≠ g) (u : Value) : Nums (w.setCell p u) k g n f := fun i hi => by
  rw [← h i hi]; exact World.cell?_setCell_other w p _ u (fun e => hp (by rw [e]))
end
theorem Blk.nums {w : World} {g : Nat} {t : TypeId} {cs : Array Value} {k : IntKind} {n : Nat} {f : Nat → Int} (h : Blk w g t cs) (hc : ∀ i, i < n → cs[i]? = some (.int k (f i))) : Nums w k g n f := fun i hi => (h.cell i).trans (hc i hi)

end Go.Proofs.Ytkeikkkcmackeaa
