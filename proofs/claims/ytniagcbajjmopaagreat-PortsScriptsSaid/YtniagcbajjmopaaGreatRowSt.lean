/- A whole struct stored into a block. Of whatever program. -/
import Derived.Test.YtniagcbajjmopaaGreatArr
import Derived.Deep.WholeRow
namespace Go.Proofs.YtniagcbajjmopaaGreat
open Go.RowKit
theorem run_storeCells_row {P : Program} (w : World) (g : Nat) (t : TypeId) (c c' : Array Value) (hg : w.heap[g]? = some (.cells c t (0, 0))) (hi : (P.info? t).map (·.size) = some c'.size) (ho : c.size = c'.size) (h1 : c'.all (·.oneCell') = true) :
    (storeCells ⟨g, 0, none⟩ c'.toList 0).run P w = .ok () (w.setRow g c') := by
  have := run_storeVar_row (P := P) w g t t c c' hg hi ho h1
  cases hq : P.info? t with
  | none => simp [hq] at hi
  | some i =>
    have hs : c'.size = i.size := by simp [hq] at hi; omega
    simpa [storeVar, sizeOf, typeInfo, hq, Value.cells, hs] using this
theorem setRow_other (w : World) (g i : Nat) (c : Array Value) (h : i ≠ g) : (w.setRow g c).heap[i]? = w.heap[i]? := by
  unfold World.setRow
  simp only [Array.getElem?_modify]
  rw [if_neg (fun e => h e.symm)]
theorem Upd.row {w w' : World} {g : Nat} (h : Upd w g w') (c : Array Value) : Upd w g (w'.setRow g c) :=
  h.trans ⟨rfl, rfl, rfl, by simp, fun i _ n => setRow_other w' g i c n⟩
theorem Blk.row {w : World} {g : Nat} {t : TypeId} {c : Array Value} (h : Blk w g t c) (c' : Array Value) : Blk (w.setRow g c') g t c' := setRow_heap w g c c' t (0, 0) h
theorem Upd.ofRow (w : World) (g : Nat) (c : Array Value) : Upd w g (w.setRow g c) := (Upd.refl w g).row c
end Go.Proofs.YtniagcbajjmopaaGreat
