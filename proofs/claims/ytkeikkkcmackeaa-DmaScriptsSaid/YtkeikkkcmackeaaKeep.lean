/- What is kept; bounds of arguments. Of whatever program. (The board's seat has these in XBoardB, XBoardE, XBoardO.) -/
import Derived.Test.YtkeikkkcmackeaaArr
import Derived.OwnWalk
namespace Go.Proofs.Ytkeikkkcmackeaa
open Go.RowKit
theorem keepAlloc {w : World} {a : Addr} {v : Value} (h : w.cell? a = some v) (o : Obj) : (w.alloc o).cell? a = some v := (World.cell?_alloc_lt w o a (World.block_lt_of_cell? _ _ h)).trans h
theorem keepMore {w : World} {a : Addr} {v : Value} (h : w.cell? a = some v) (x : Ext) : (moreOf w x).cell? a = some v := (cell_more_old w x (World.block_lt_of_cell? _ _ h)).trans h
theorem keepC {w w' : World} {a : Addr} {v : Value} (hb : Below w.heap.size w w') (h : w.cell? a = some v) : w'.cell? a = some v := by
  rw [← h]; exact hb.cell (World.block_lt_of_cell? _ _ h)
theorem keepU {w w' : World} {g : Nat} {a : Addr} {v : Value} (hu : Upd w g w') (h : w.cell? a = some v) (hn : a.block ≠ g) : w'.cell? a = some v := by
  rw [← h]; exact hu.cell (World.block_lt_of_cell? _ _ h) hn
theorem ownsKept {w w' : World} {base : Nat} {E : TypeId} {size : Nat} {v : Value} {n : Nat} {xs : List Value} (h : w.ownsRow base E size v n xs) (b : Below w.heap.size w w') : w'.ownsRow base E size v n xs :=
  World.ownsRow.kept (row := none) h ⟨b.os, b.tape, b.output, b.size, fun k hk _ => b.block k hk⟩ (by cases v.ownBlock <;> simp)
theorem wf_u8 {n : Int} (h : (Lit.int .u8 n).wf = true) : 0 ≤ n ∧ n ≤ 255 := by
  simp [Lit.wf, IntKind.min, IntKind.max, IntKind.signed, IntKind.bits] at h
  omega
theorem wf_u16 {n : Int} (h : (Lit.int .u16 n).wf = true) : 0 ≤ n ∧ n ≤ 65535 := by
  simp [Lit.wf, IntKind.min, IntKind.max, IntKind.signed, IntKind.bits] at h
  omega
theorem wf_u32 {n : Int} (h : (Lit.int .u32 n).wf = true) : 0 ≤ n ∧ n ≤ 4294967295 := by
  simp [Lit.wf, IntKind.min, IntKind.max, IntKind.signed, IntKind.bits] at h
  omega
theorem wf_i64 {n : Int} (h : (Lit.int .i64 n).wf = true) : -9223372036854775808 ≤ n ∧ n ≤ 9223372036854775807 := by
  simp [Lit.wf, IntKind.min, IntKind.max, IntKind.signed, IntKind.bits] at h
  omega
theorem keepSetO {w : World} {g i j : Nat} {v u : Value} (h : w.cell? ⟨g, i, none⟩ = some v) (n : i ≠ j) : (w.setCell ⟨g, j, none⟩ u).cell? ⟨g, i, none⟩ = some v := by
  rw [← h]; exact World.cell?_setCell_other w _ _ u (fun e => n (by injection e with _ h _; exact h.symm))
theorem Upd.newer {w w' : World} {g : Nat} (h : Upd w g w') {p : Addr} (hp : w.heap.size ≤ p.block) (u : Value) : Upd w g (w'.setCell p u) :=
  ⟨h.os, h.tape, h.output, by have := h.size; simpa [World.setCell] using this, fun i hi n => (Below.heap_setCell _ _ _ _ (by omega)).trans (h.block i hi n)⟩
/-- One block, then another. -/
theorem Sees.upd {w w' : World} {g : Nat} {k : IntKind} {v : Value} {n : Nat} {f : Nat → Int} (S : Sees w k v n f) (hu : Upd w g w') (hn : ∀ ao c, v = .slice (some ao) n c → ao.block ≠ g) : Sees w' k v n f := by
  obtain ⟨ao, c, e, h⟩ := S
  refine ⟨ao, c, e, ?_⟩
  rcases h with h | ⟨b, off, ea, h⟩
  · exact Or.inl h
  · refine Or.inr ⟨b, off, ea, fun j hj => ?_⟩
    subst ea
    exact keepU hu (h j hj) (hn ⟨b, off, none⟩ c e)
end Go.Proofs.Ytkeikkkcmackeaa
