/- Reach: what each mode computes; what a walk of it holds. -/
import Derived.Test.YtmejjejafimhfaaReachS
namespace Go.Proofs.Ytmejjejafimhfaa
open Go.RowKit
set_option linter.unusedVariables false
set_option linter.unusedSimpArgs false

/-- What a walk of Reach holds: the walker, the code's block, the answer's block. -/
structure Rd (w0 : World) (g B : Nat) (cs : Array Value) (s : St) (w : World) : Prop where
  i : In w g s
  c : Blk w B 23 cs
  o : Blk w (B + 1) 31 #[.int .u32 0, .bool false]
  u : Upd w0 g w
  gB : g < B
  wB : w0.heap.size ≤ B
variable {w0 w w' : World} {g B : Nat} {cs : Array Value} {s s' : St}
theorem Rd.step (h : Rd w0 g B cs s w) (i' : In w' g s') (u' : Upd w g w') : Rd w0 g B cs s' w' :=
  ⟨i', u'.blk h.c (by have := h.gB; omega), u'.blk h.o (by have := h.gB; omega), h.u.trans u', h.gB, h.wB⟩
theorem Rd.below (h : Rd w0 g B cs s w) (hb : Below w.heap.size w w') : Rd w0 g B cs s w' := h.step (h.i.upd hb) (Upd.ofBelow hb g)
theorem Rd.facts (h : Rd w0 g B cs s w) : w.cell? ⟨B + 1, 0, none⟩ = some (.int .u32 0) ∧ w.cell? ⟨B + 1, 1, none⟩ = some (.bool false) ∧ w.frozen? ⟨B + 1, 0, none⟩ = false ∧ w.frozen? ⟨B + 1, 1, none⟩ = false := ⟨h.o.cell 0, h.o.cell 1, h.o.frozen 0, h.o.frozen 1⟩
theorem Rd.code {c m u wd : Int} {nm : ByteArray} (h : Rd w0 g B #[.int .u8 c, .string nm, .int .u8 m, .int .u8 u, .int .u8 wd] s w) : w.cell? ⟨B, 0, none⟩ = some (.int .u8 c) ∧ w.cell? ⟨B, 1, none⟩ = some (.string nm) ∧ w.cell? ⟨B, 2, none⟩ = some (.int .u8 m) ∧ w.cell? ⟨B, 3, none⟩ = some (.int .u8 u) ∧ w.cell? ⟨B, 4, none⟩ = some (.int .u8 wd) := ⟨h.c.cell 0, h.c.cell 1, h.c.cell 2, h.c.cell 3, h.c.cell 4⟩
theorem Rd.done (h : Rd w0 g B cs s w) (u v : Value) : In ((w.setCell ⟨B + 1, 0, none⟩ u).setCell ⟨B + 1, 1, none⟩ v) g s ∧ Upd w0 g ((w.setCell ⟨B + 1, 0, none⟩ u).setCell ⟨B + 1, 1, none⟩ v) :=
  ⟨h.i.put2 (by have := h.gB; omega) u v, h.u.put2 (by have := h.wB; omega) u v⟩
theorem indexed_r (use a i : Int) (s : St) : (mIndexed use a i s).2.r = s.r := by
  simp only [mIndexed]; split <;> rfl
theorem laid3 (w : World) (g : Nat) {s : St} (h : In w g s) (c m u wd : Int) (nm : ByteArray) :
    Rd w g w.heap.size #[.int .u8 c, .string nm, .int .u8 m, .int .u8 u, .int .u8 wd] s ((w.alloc (.cells #[.int .u8 c, .string nm, .int .u8 m, .int .u8 u, .int .u8 wd] 23)).alloc (.cells #[.int .u32 0, .bool false] 31)) := by
  have hb : Below w.heap.size w ((w.alloc (.cells #[.int .u8 c, .string nm, .int .u8 m, .int .u8 u, .int .u8 wd] 23)).alloc (.cells #[.int .u32 0, .bool false] 31)) := belowA (belowA (Below.refl _ _) _) _
  refine ⟨h.upd hb, (Blk.new _ _ _).alloc _, ?_, Upd.ofBelow hb g, h.lt, Nat.le_refl _⟩
  have := Blk.new (w.alloc (.cells #[.int .u8 c, .string nm, .int .u8 m, .int .u8 u, .int .u8 wd] 23)) 31 #[.int .u32 0, .bool false]
  simpa using this

def mInd (s : St) : Int × St := let q := mOffset s; let t := mPointer q.1 q.2; (bankOf t.2.r t.1, t.2)
def mIndX (s : St) : Int × St := let q := mOffset s; let t := mPointer (q.1 + q.2.r.x) (mIdle q.2); (bankOf t.2.r t.1, t.2)
def mIndY (use : Int) (s : St) : Int × St := let q := mInd s; mIndexed use q.1 q.2.r.y q.2
def mIndL (s : St) : Int × St := let q := mOffset s; let t := mPointer q.1 q.2; let v := mRead (directOf t.2.r.d t.2.r.e (q.1 + 2)) t.2; (t.1 + v.1 * 65536, v.2)
def mIndLY (s : St) : Int × St := let q := mIndL s; ((q.1 + q.2.r.y) % 16777216, q.2)
def mAbs (s : St) : Int × St := let q := mFetch16 s; (bankOf q.2.r q.1, q.2)
def mAbsX (use : Int) (s : St) : Int × St := let q := mAbs s; mIndexed use q.1 q.2.r.x q.2
def mAbsY (use : Int) (s : St) : Int × St := let q := mAbs s; mIndexed use q.1 q.2.r.y q.2
def mLongX (s : St) : Int × St := let q := mFetch24 s; ((q.1 + q.2.r.x) % 16777216, q.2)
def mReach (m u : Int) (s : St) : (Int × Bool) × St :=
  let at_ : Bool → Int × St → (Int × Bool) × St := fun b q => ((q.1, b), q.2)
  if m = 5 ∨ m = 6 ∨ m = 7 then at_ true (mDirect m s)
  else if m = 8 then at_ false (mInd s)
  else if m = 10 then at_ false (mIndX s)
  else if m = 11 then at_ false (mIndY u s)
  else if m = 9 then at_ false (mIndL s)
  else if m = 12 then at_ false (mIndLY s)
  else if m = 13 then at_ false (mAbs s)
  else if m = 14 then at_ false (mAbsX u s)
  else if m = 15 then at_ false (mAbsY u s)
  else if m = 16 then at_ false (mFetch24 s)
  else if m = 17 then at_ false (mLongX s)
  else if m = 21 ∨ m = 22 then mStack m s
  else ((0, false), s)
end Go.Proofs.Ytmejjejafimhfaa
