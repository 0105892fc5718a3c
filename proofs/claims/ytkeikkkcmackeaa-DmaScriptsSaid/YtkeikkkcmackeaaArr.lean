/- Rows of numbers: in a block of their own ('Arr'), or wherever a slice says ('Sees'); of whatever program. -/
import Derived.Test.YtkeikkkcmackeaaKits
import Derived.OwnWalk
import Derived.StillTailTactics
import Derived.Deep.RegionHeld3
namespace Go.Proofs.Ytkeikkkcmackeaa
open Go.RowKit

/-- A block of eight cells, cell by cell. -/
theorem Blk.eight {w : World} {g : Nat} {t : TypeId} {a0 a1 a2 a3 a4 a5 a6 a7 : Value} (h : Blk w g t #[a0, a1, a2, a3, a4, a5, a6, a7]) :
    w.cell? ⟨g, 0, none⟩ = some a0 ∧ w.cell? ⟨g, 1, none⟩ = some a1 ∧ w.cell? ⟨g, 2, none⟩ = some a2 ∧ w.cell? ⟨g, 3, none⟩ = some a3 ∧ w.cell? ⟨g, 4, none⟩ = some a4 ∧ w.cell? ⟨g, 5, none⟩ = some a5 ∧ w.cell? ⟨g, 6, none⟩ = some a6 ∧ w.cell? ⟨g, 7, none⟩ = some a7 ∧
    w.frozen? ⟨g, 0, none⟩ = false ∧ w.frozen? ⟨g, 1, none⟩ = false ∧ w.frozen? ⟨g, 2, none⟩ = false ∧ w.frozen? ⟨g, 3, none⟩ = false ∧ w.frozen? ⟨g, 4, none⟩ = false ∧ w.frozen? ⟨g, 5, none⟩ = false ∧ w.frozen? ⟨g, 6, none⟩ = false ∧ w.frozen? ⟨g, 7, none⟩ = false := by
  refine ⟨h.cell 0, h.cell 1, h.cell 2, h.cell 3, h.cell 4, h.cell 5, h.cell 6, h.cell 7, h.frozen 0, h.frozen 1, h.frozen 2, h.frozen 3, h.frozen 4, h.frozen 5, h.frozen 6, h.frozen 7⟩
theorem eight_of {cs : Array Value} (h : cs.size = 8) : ∃ a0 a1 a2 a3 a4 a5 a6 a7, cs = #[a0, a1, a2, a3, a4, a5, a6, a7] := by
  obtain ⟨l⟩ := cs
  simp at h
  match l, h with
  | [a0, a1, a2, a3, a4, a5, a6, a7], _ => exact ⟨a0, a1, a2, a3, a4, a5, a6, a7, rfl⟩
/-- A row of n numbers (at least) in block g: none frozen. -/
def Arr (w : World) (k : IntKind) (E : TypeId) (g n : Nat) (f : Nat → Int) : Prop := ∃ cs : Array Value, Blk w g E cs ∧ n ≤ cs.size ∧ ∀ j, j < n → cs[j]? = some (.int k (f j))

section
variable {w w' : World} {k : IntKind} {E : TypeId} {g n : Nat} {f : Nat → Int}
theorem Arr.lt (h : Arr w k E g n f) : g < w.heap.size := by obtain ⟨cs, h, _⟩ := h; exact h.lt
theorem Arr.cell (h : Arr w k E g n f) {j : Nat} (hj : j < n) : w.cell? ⟨g, j, none⟩ = some (.int k (f j)) := by
  obtain ⟨cs, hb, _, hc⟩ := h; rw [hb.cell]; exact hc j hj
theorem Arr.frozen (h : Arr w k E g n f) (j : Nat) : w.frozen? ⟨g, j, none⟩ = false := by obtain ⟨cs, h, _⟩ := h; exact h.frozen j
theorem Arr.alloc (h : Arr w k E g n f) (o : Obj) : Arr (w.alloc o) k E g n f := by obtain ⟨cs, h, r⟩ := h; exact ⟨cs, h.alloc o, r⟩
theorem Arr.drew (h : Arr w k E g n f) : Arr w.drew k E g n f := h
theorem Arr.drewN (h : Arr w k E g n f) (m : Nat) : Arr (w.drewN m) k E g n f := h
theorem Arr.more (h : Arr w k E g n f) (x : Ext) : Arr (moreOf w x) k E g n f := by obtain ⟨cs, h, r⟩ := h; exact ⟨cs, h.more x, r⟩
theorem Arr.below {B : Nat} (h : Arr w k E g n f) (hb : Below B w w') (hg : g < B) : Arr w' k E g n f := by obtain ⟨cs, h, r⟩ := h; exact ⟨cs, h.below hb hg, r⟩
theorem Arr.kept (h : Arr w k E g n f) (hb : Below w.heap.size w w') : Arr w' k E g n f := h.below hb h.lt
theorem Arr.other (h : Arr w k E g n f) {p : Addr} (hp : p.block ≠ g) (u : Value) : Arr (w.setCell p u) k E g n f := by obtain ⟨cs, h, r⟩ := h; exact ⟨cs, h.other hp u, r⟩
theorem Arr.congr {f' : Nat → Int} (h : Arr w k E g n f) (e : ∀ j, j < n → f j = f' j) : Arr w k E g n f' := by
  obtain ⟨cs, h, s, r⟩ := h
  exact ⟨cs, h, s, fun j hj => by rw [r j hj, e j hj]⟩
theorem Arr.set (h : Arr w k E g n f) {i : Nat} (hi : i < n) (x : Int) : Arr (w.setCell ⟨g, i, none⟩ (.int k x)) k E g n (fun j => if j = i then x else f j) := by
  obtain ⟨cs, h, s, r⟩ := h
  refine ⟨_, h.set_ i _, by simpa using s, fun j hj => ?_⟩
  rw [Array.getElem?_setIfInBounds]
  by_cases e : i = j
  · subst e
    simp [show i < cs.size by omega]
  · rw [if_neg e, r j hj]
    simp [Ne.symm e]
end

/-- A slice whose elements are these numbers. -/
def Sees (w : World) (k : IntKind) (v : Value) (n : Nat) (f : Nat → Int) : Prop :=
  ∃ ao c, v = .slice ao n c ∧ (n = 0 ∨ ∃ b off, ao = some ⟨b, off, none⟩ ∧ ∀ j, j < n → w.cell? ⟨b, off + j, none⟩ = some (.int k (f j)))

section
variable {w w' : World} {k : IntKind} {v : Value} {n : Nat} {f : Nat → Int}
theorem Arr.sees {E : TypeId} {g c : Nat} (h : Arr w k E g n f) : Sees w k (.slice (some ⟨g, 0, none⟩) n c) n f :=
  ⟨_, _, rfl, Or.inr ⟨g, 0, rfl, fun j hj => by rw [Nat.zero_add]; exact h.cell hj⟩⟩
theorem Sees.nil (w : World) (k : IntKind) (f : Nat → Int) (c : Nat) : Sees w k (.slice none 0 c) 0 f := ⟨_, _, rfl, Or.inl rfl⟩
theorem Sees.kept (h : Sees w k v n f) (hb : Below w.heap.size w w') : Sees w' k v n f := by
  obtain ⟨ao, c, e, h⟩ := h
  refine ⟨ao, c, e, h.imp id fun ⟨b, off, ea, h⟩ => ⟨b, off, ea, fun j hj => ?_⟩⟩
  rw [← h j hj]
  exact hb.cell (p := ⟨b, off + j, none⟩) (World.block_lt_of_cell? _ _ (h j hj))
theorem Sees.congr {f' : Nat → Int} (h : Sees w k v n f) (e : ∀ j, j < n → f j = f' j) : Sees w k v n f' := by
  obtain ⟨ao, c, ev, h⟩ := h
  exact ⟨ao, c, ev, h.imp id fun ⟨b, off, ea, h⟩ => ⟨b, off, ea, fun j hj => by rw [h j hj, e j hj]⟩⟩
end

/-- What 'make' has laid. -/
theorem Arr.made {w : World} {base : Nat} {E : TypeId} {g c n : Nat} {k : IntKind} {z : Value} (hz : z = .int k 0) (h : w.ownsRow base E 1 (.slice (some ⟨g, 0, none⟩) n c) n (madeCells z.cells (n * 1)).toList) : Arr w k E g n (fun _ => 0) := by
  subst hz
  obtain ⟨h1, h2 | ⟨g', cap, cur, e, hg, hh, hn, hm, hs, ht⟩⟩ := h
  · obtain ⟨h2, _⟩ := h2; cases h2
  · cases e
    refine ⟨cur, hh, by omega, fun j hj => ?_⟩
    have : cur.toList[j]? = (cur.toList.take (n * 1))[j]? := by rw [List.getElem?_take, if_pos (by omega)]
    rw [← Array.getElem?_toList, this, ht]
    have e2 : (madeCells (Value.int k 0).cells (n * 1))[j]? = some (.int k 0) := by
      simp [madeCells, Value.cells, hj, Nat.mod_one]
    simpa using e2
/-- n zeros. -/
def zeros (k : IntKind) (n : Nat) : Array Value := madeCells (Value.int k 0).cells n
theorem zeros_size (k : IntKind) (n : Nat) : (zeros k n).size = n := size_madeCells _ _
theorem zeros_at (k : IntKind) (n j : Nat) (hj : j < n) : (zeros k n)[j]? = some (.int k 0) := by
  simp [zeros, madeCells, Value.cells, hj, Nat.mod_one]
theorem Arr.zero (w : World) (k : IntKind) (E : TypeId) (n : Nat) : Arr (w.alloc (.cells (zeros k n) E)) k E w.heap.size n (fun _ => 0) :=
  ⟨_, Blk.new _ _ _, by rw [zeros_size]; exact Nat.le_refl _, fun j hj => zeros_at k n j hj⟩
theorem make_zeros {P : Program} {t e : TypeId} {k : IntKind} {b : Nat} (ht : P.underlying t = some (.slice e)) (hi : (P.info? e).map (fun i => (i.zero, i.size, i.bytes)) = some (some (.int k 0), 1, b)) (n : Nat) (hb : (b : Int) * n ≤ 281474976710656) (hn : n ≤ 140737488355328) (w : World) :
    (Instr.makeSlice t (.int .i64 n) (.int .i64 n)).run P w = .ok (.slice (some ⟨w.heap.size, 0, none⟩) n n) (w.alloc (.cells (zeros k n) e)) := by
  obtain ⟨i0, h0, h1, h2, h3⟩ := info_parts hi
  have := run_make (P := P) w t e i0 _ ht h0 h1 .i64 .i64 n n (by omega) (by omega) (by rw [h3]; exact hb) (by omega)
  rw [h2, Nat.mul_one] at this
  simpa [zeros] using this

/-- What 'slices.Clone' gives: a row of the call's own. -/
theorem Arr.owned {w : World} {base : Nat} {E : TypeId} {n : Nat} {k : IntKind} {v : Value} {f : Nat → Int} (hv : v ≠ .slice none 0 0) (h : w.ownsRow base E 1 v n ((List.range n).map fun j => .int k (f j))) : ∃ g cap, v = .slice (some ⟨g, 0, none⟩) n cap ∧ base ≤ g ∧ Arr w k E g n f := by
  obtain ⟨h1, h2 | ⟨g', cap, cur, e, hg, hh, hn, hm, hs, ht⟩⟩ := h
  · exact absurd h2.1 hv
  · refine ⟨g', cap, e, hg, cur, hh, by omega, fun j hj => ?_⟩
    have : cur.toList[j]? = (cur.toList.take (n * 1))[j]? := by rw [List.getElem?_take, if_pos (by omega)]
    rw [← Array.getElem?_toList, this, ht]
    simp [hj]

theorem keepSet {w : World} {a p : Addr} {v u : Value} (h : w.cell? a = some v) (n : a.block ≠ p.block) : (w.setCell p u).cell? a = some v := by
  rw [← h]; exact World.cell?_setCell_other w p _ u (fun e => n (by rw [e]))
/-- Only block g may have changed of what was there. -/
structure Upd (w : World) (g : Nat) (w' : World) : Prop where
  os : w'.os = w.os
  tape : w'.tape = w.tape
  output : w'.output = w.output
  size : w.heap.size ≤ w'.heap.size
  block : ∀ i, i < w.heap.size → i ≠ g → w'.heap[i]? = w.heap[i]?
section
variable {w w' w2 : World} {g : Nat}
theorem Upd.refl (w : World) (g : Nat) : Upd w g w := ⟨rfl, rfl, rfl, Nat.le_refl _, fun _ _ _ => rfl⟩
theorem Upd.ofBelow (h : Below w.heap.size w w') (g : Nat) : Upd w g w' := ⟨h.os, h.tape, h.output, h.size, fun i hi _ => h.block i hi⟩
theorem Upd.trans (h : Upd w g w') (k : Upd w' g w2) : Upd w g w2 := ⟨k.os.trans h.os, k.tape.trans h.tape, k.output.trans h.output, Nat.le_trans h.size k.size, fun i hi n => (k.block i (Nat.lt_of_lt_of_le hi h.size) n).trans (h.block i hi n)⟩
theorem Upd.below (h : Upd w g w') (k : Below w'.heap.size w' w2) : Upd w g w2 := h.trans (Upd.ofBelow k g)
theorem Upd.set (h : Upd w g w') (i : Nat) (v : Value) : Upd w g (w'.setCell ⟨g, i, none⟩ v) := h.trans ⟨rfl, rfl, rfl, by simp [World.setCell], fun j _ n => Below.heap_setCell _ _ _ _ n⟩
theorem Upd.alloc (h : Upd w g w') (o : Obj) : Upd w g (w'.alloc o) := h.below ((Below.refl _ _).alloc (Nat.le_refl _) o)
theorem Upd.drew (h : Upd w g w') : Upd w g w'.drew := h.below (Below.refl _ _).drew
theorem Upd.drewN (h : Upd w g w') (n : Nat) : Upd w g (w'.drewN n) := h.below (below_drewN (Below.refl _ _) n)
/-- What a call did to a block of one's own is nothing to what was there before. -/
theorem Upd.out {W : World} (h : Upd w g w') (b : Below W.heap.size W w) (hg : W.heap.size ≤ g) : Below W.heap.size W w' :=
  b.trans ⟨h.os, h.tape, h.output, h.size, fun i hi => h.block i (Nat.lt_of_lt_of_le hi b.size) (by omega)⟩
theorem Upd.cell (h : Upd w g w') {p : Addr} (hp : p.block < w.heap.size) (hn : p.block ≠ g) : w'.cell? p = w.cell? p := World.cell?_of_block (h.block _ hp hn)
theorem Upd.frozen (h : Upd w g w') {p : Addr} (hp : p.block < w.heap.size) (hn : p.block ≠ g) : w'.frozen? p = w.frozen? p := World.frozen?_of_block (h.block _ hp hn)
theorem Upd.blk {b : Nat} {t : TypeId} {cs : Array Value} (h : Upd w g w') (hb : Blk w b t cs) (hn : b ≠ g) : Blk w' b t cs := (h.block b hb.lt hn).trans hb
theorem Upd.arr {k : IntKind} {E : TypeId} {b n : Nat} {f : Nat → Int} (h : Upd w g w') (hb : Arr w k E b n f) (hn : b ≠ g) : Arr w' k E b n f := by obtain ⟨cs, hb, r⟩ := hb; exact ⟨cs, h.blk hb hn, r⟩
end

/-- Eight cells stored one behind the other. -/
theorem Blk.put8 {w : World} {g : Nat} {t : TypeId} {a0 a1 a2 a3 a4 a5 a6 a7 : Value} (h : Blk w g t #[a0, a1, a2, a3, a4, a5, a6, a7]) (b0 b1 b2 b3 b4 b5 b6 b7 : Value) :
    Blk ((((((((w.setCell ⟨g, 0, none⟩ b0).setCell ⟨g, 1, none⟩ b1).setCell ⟨g, 2, none⟩ b2).setCell ⟨g, 3, none⟩ b3).setCell ⟨g, 4, none⟩ b4).setCell ⟨g, 5, none⟩ b5).setCell ⟨g, 6, none⟩ b6).setCell ⟨g, 7, none⟩ b7) g t #[b0, b1, b2, b3, b4, b5, b6, b7] ∧
    Upd w g ((((((((w.setCell ⟨g, 0, none⟩ b0).setCell ⟨g, 1, none⟩ b1).setCell ⟨g, 2, none⟩ b2).setCell ⟨g, 3, none⟩ b3).setCell ⟨g, 4, none⟩ b4).setCell ⟨g, 5, none⟩ b5).setCell ⟨g, 6, none⟩ b6).setCell ⟨g, 7, none⟩ b7) := by
  have h0 : Blk _ g t #[b0, a1, a2, a3, a4, a5, a6, a7] := h.set_ 0 b0
  have h1 : Blk _ g t #[b0, b1, a2, a3, a4, a5, a6, a7] := h0.set_ 1 b1
  have h2 : Blk _ g t #[b0, b1, b2, a3, a4, a5, a6, a7] := h1.set_ 2 b2
  have h3 : Blk _ g t #[b0, b1, b2, b3, a4, a5, a6, a7] := h2.set_ 3 b3
  have h4 : Blk _ g t #[b0, b1, b2, b3, b4, a5, a6, a7] := h3.set_ 4 b4
  have h5 : Blk _ g t #[b0, b1, b2, b3, b4, b5, a6, a7] := h4.set_ 5 b5
  have h6 : Blk _ g t #[b0, b1, b2, b3, b4, b5, b6, a7] := h5.set_ 6 b6
  have h7 : Blk _ g t #[b0, b1, b2, b3, b4, b5, b6, b7] := h6.set_ 7 b7
  exact ⟨h7, ((((((((Upd.refl w g).set 0 b0).set 1 b1).set 2 b2).set 3 b3).set 4 b4).set 5 b5).set 6 b6).set 7 b7⟩

/-- Are two rows the same? -/
def eqRow (n m : Nat) (f g : Nat → Int) : Bool := decide (n = m ∧ ∀ j, j < n → f j = g j)
theorem eqRow_yes {n : Nat} {f g : Nat → Int} (h : ∀ j, j < n → f j = g j) : eqRow n n f g = true := decide_eq_true ⟨rfl, h⟩
theorem eqRow_len {n m : Nat} {f g : Nat → Int} (h : n ≠ m) : eqRow n m f g = false := decide_eq_false fun k => h k.1
theorem eqRow_at {n : Nat} {f g : Nat → Int} {j : Nat} (hj : j < n) (h : f j ≠ g j) : eqRow n n f g = false := decide_eq_false fun k => h (k.2 j hj)

end Go.Proofs.Ytkeikkkcmackeaa
