/- A block that is known whole; of whatever program. -/
import Derived.Test.YtfigepnpegnhkaaKit
import Derived.Laws.Rows
import Derived.Laws.OwnMore
namespace Go.Proofs.Ytfigepnpegnhkaa
open Go.RowKit

/-- Block g is just these cells of type t, none of them frozen. -/
def Blk (w : World) (g : Nat) (t : TypeId) (cs : Array Value) : Prop := w.heap[g]? = some (.cells cs t (0, 0))

section
variable {w w' : World} {g : Nat} {t : TypeId} {cs : Array Value}
theorem Blk.lt (h : Blk w g t cs) : g < w.heap.size := by
  rcases Nat.lt_or_ge g w.heap.size with k | k
  · exact k
  · unfold Blk at h; rw [Array.getElem?_eq_none k] at h; cases h
theorem Blk.cell (h : Blk w g t cs) (i : Nat) : w.cell? ⟨g, i, none⟩ = cs[i]? := by
  unfold Blk at h; simp [World.cell?, h]
theorem Blk.frozen (h : Blk w g t cs) (i : Nat) : w.frozen? ⟨g, i, none⟩ = false := by
  unfold Blk at h; simp [World.frozen?, h]
theorem Blk.new (w : World) (t : TypeId) (cs : Array Value) : Blk (w.alloc (.cells cs t)) w.heap.size t cs := by
  show (w.heap.push _)[w.heap.size]? = _
  simp
theorem Blk.alloc (h : Blk w g t cs) (o : Obj) : Blk (w.alloc o) g t cs := (Below.heap_alloc w o g h.lt).trans h
theorem Blk.drew (h : Blk w g t cs) : Blk w.drew g t cs := h
theorem Blk.drewN (h : Blk w g t cs) (n : Nat) : Blk (w.drewN n) g t cs := h
theorem Blk.more (h : Blk w g t cs) (x : Ext) : Blk (moreOf w x) g t cs := (heap_more w x h.lt).trans h
theorem Blk.below {B : Nat} (h : Blk w g t cs) (hb : Below B w w') (hg : g < B) : Blk w' g t cs := (hb.block g hg).trans h
theorem Blk.kept (h : Blk w g t cs) (hb : Below w.heap.size w w') : Blk w' g t cs := h.below hb h.lt
theorem Blk.set_ (h : Blk w g t cs) (i : Nat) (u : Value) : Blk (w.setCell ⟨g, i, none⟩ u) g t (cs.setIfInBounds i u) := by
  unfold Blk at *
  simp only [World.setCell, Array.getElem?_modify, ↓reduceIte, h, Option.map_some]
  rfl
theorem Blk.other (h : Blk w g t cs) {p : Addr} (hp : p.block ≠ g) (u : Value) : Blk (w.setCell p u) g t cs := by
  unfold Blk at *
  rw [Below.heap_setCell w p u g (fun e => hp e.symm)]
  exact h
end

/-- The numbers of a row of bytes (or others): cell i holds f i, for each i below n. -/
def Nums (w : World) (k : IntKind) (g n : Nat) (f : Nat → Int) : Prop := ∀ i, i < n → w.cell? ⟨g, i, none⟩ = some (.int k (f i))
section
variable {w w' : World} {k : IntKind} {g n : Nat} {f : Nat → Int}
theorem Nums.lt (h : Nums w k g n f) (hn : 0 < n) : g < w.heap.size := World.block_lt_of_cell? _ _ (h 0 hn)
theorem Nums.alloc (h : Nums w k g n f) (o : Obj) : Nums (w.alloc o) k g n f := fun i hi => by
  rw [← h i hi]; exact World.cell?_alloc_lt w o _ (World.block_lt_of_cell? _ _ (h i hi))
theorem Nums.more (h : Nums w k g n f) (x : Ext) : Nums (moreOf w x) k g n f := fun i hi => by
  rw [← h i hi]; exact cell_more_old w x (World.block_lt_of_cell? _ _ (h i hi))
theorem Nums.below {B : Nat} (h : Nums w k g n f) (hb : Below B w w') (hg : g < B) : Nums w' k g n f := fun i hi => by
  rw [← h i hi]; exact hb.cell (p := ⟨g, i, none⟩) hg
theorem Nums.kept (h : Nums w k g n f) (hb : Below w.heap.size w w') : Nums w' k g n f := fun i hi => by
  rw [← h i hi]; exact hb.cell (p := ⟨g, i, none⟩) (World.block_lt_of_cell? _ _ (h i hi))
theorem Nums.other (h : Nums w k g n f) {p : Addr} (hp : p.block ≠ g) (u : Value) : Nums (w.setCell p u) k g n f := fun i hi => by
  rw [← h i hi]; exact World.cell?_setCell_other w p _ u (fun e => hp (by rw [e]))
end
theorem Blk.nums {w : World} {g : Nat} {t : TypeId} {cs : Array Value} {k : IntKind} {n : Nat} {f : Nat → Int} (h : Blk w g t cs) (hc : ∀ i, i < n → cs[i]? = some (.int k (f i))) : Nums w k g n f := fun i hi => (h.cell i).trans (hc i hi)

end Go.Proofs.Ytfigepnpegnhkaa
