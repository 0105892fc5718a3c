/- A table's bytes and lines, in plain words; rows of one's own. -/
import Derived.Test.YtkeikkkcmackeaaChecked
import Derived.Test.YtkeikkkcmackeaaArr
import Derived.Test.YtkeikkkcmackeaaKeep
import Derived.OwnWalk
import Derived.Maps.AppendAt
namespace Go.Proofs.Ytkeikkkcmackeaa
open Go.RowKit
set_option linter.unusedVariables false
set_option linter.unusedSimpArgs false

/-- The k-th line of an entry, for patterns of n bytes. -/
def tline (c v : Int) (n k : Nat) : List Int := if k = 0 ∨ 128 < c then (List.range n).map (fun j : Nat => (v + ((k : Int) * n + (j : Int))) % 256) else []
def tblk (c v : Int) (n cnt : Nat) : List (List Int) := (List.range cnt).map (tline c v n)
def entB (n : Nat) (e : Int × Int) : List Int := if e.1 % 128 = 0 then [] else e.1 :: (tblk e.1 e.2 n (e.1 % 128).toNat).flatten
def entL (n : Nat) (e : Int × Int) : List (List Int) := if e.1 % 128 = 0 then [] else tblk e.1 e.2 n (e.1 % 128).toNat
def tabB (n : Nat) (es : List (Int × Int)) : List Int := es.flatMap (entB n)
def tabL (n : Nat) (es : List (Int × Int)) : List (List Int) := es.flatMap (entL n)
theorem tblk_succ (c v : Int) (n k : Nat) : tblk c v n (k + 1) = tblk c v n k ++ [tline c v n k] := by
  unfold tblk; rw [List.range_succ, List.map_append]; rfl
theorem tabB_take (n : Nat) (es : List (Int × Int)) (i : Nat) (e : Int × Int) (h : es[i]? = some e) : tabB n (es.take (i + 1)) = tabB n (es.take i) ++ entB n e := by
  obtain ⟨hi, rfl⟩ := List.getElem?_eq_some_iff.mp h
  unfold tabB; rw [List.take_succ_eq_append_getElem hi, List.flatMap_append]; simp
theorem tabL_take (n : Nat) (es : List (Int × Int)) (i : Nat) (e : Int × Int) (h : es[i]? = some e) : tabL n (es.take (i + 1)) = tabL n (es.take i) ++ entL n e := by
  obtain ⟨hi, rfl⟩ := List.getElem?_eq_some_iff.mp h
  unfold tabL; rw [List.take_succ_eq_append_getElem hi, List.flatMap_append]; simp

theorem tline_len (c v : Int) (n k : Nat) : (tline c v n k).length ≤ n := by
  unfold tline; split <;> simp
theorem flat_len (c v : Int) (n k : Nat) : (tblk c v n k).flatten.length ≤ k * n := by
  induction k with
  | zero => simp [tblk]
  | succ k ih =>
    rw [tblk_succ, List.flatten_append, List.length_append]
    have := tline_len c v n k
    simp only [List.flatten_cons, List.flatten_nil, List.append_nil]
    rw [Nat.succ_mul]; omega
theorem entB_len (n : Nat) (n4 : n ≤ 4) (e : Int × Int) : (entB n e).length ≤ 509 := by
  unfold entB
  split
  · simp
  · have h := flat_len e.1 e.2 n (e.1 % 128).toNat
    have h2 : (e.1 % 128).toNat ≤ 127 := by omega
    have h3 := Nat.mul_le_mul h2 n4
    rw [List.length_cons]; omega
theorem entL_len (n : Nat) (e : Int × Int) : (entL n e).length ≤ 127 := by
  unfold entL
  split
  · simp
  · unfold tblk; rw [List.length_map, List.length_range]; omega
theorem tabB_len (n : Nat) (n4 : n ≤ 4) (es : List (Int × Int)) : (tabB n es).length ≤ 509 * es.length := by
  induction es with
  | nil => simp [tabB]
  | cons e es ih =>
    have h := entB_len n n4 e
    have e1 : tabB n (e :: es) = entB n e ++ tabB n es := by unfold tabB; simp
    rw [e1, List.length_append, List.length_cons]; omega
theorem tabL_len (n : Nat) (es : List (Int × Int)) : (tabL n es).length ≤ 127 * es.length := by
  induction es with
  | nil => simp [tabL]
  | cons e es ih =>
    have h := entL_len n e
    have e1 : tabL n (e :: es) = entL n e ++ tabL n es := by unfold tabL; simp
    rw [e1, List.length_append, List.length_cons]; omega

/-- A row of bytes of the call's own. -/
def Row (W : World) (base : Nat) (v : Value) (xs : List Int) : Prop := W.ownsRow base 5 1 v xs.length (xs.map (Value.int .u8))
/-- A row of rows. -/
def Rows2 (W : World) (base : Nat) (v : Value) (vs : List Value) : Prop := W.ownsRow base 40 1 v vs.length vs
def Dj (x y : Value) : Prop := ∀ g, x.ownBlock = some g → y.ownBlock ≠ some g
section
variable {w w' : World} {base : Nat} {v x y : Value} {e : TypeId} {n : Nat} {xs : List Value}
theorem own_lt (h : w.ownsRow base e 1 v n xs) {g : Nat} (hg : v.ownBlock = some g) : g < w.heap.size := by
  rcases h.2 with ⟨rfl, _⟩ | ⟨g', cap, cur, rfl, hb, hh, _⟩
  · cases hg
  · cases hg
    exact (Array.getElem?_eq_some_iff.mp hh).1
theorem own_grown (h : w.ownsRow base e 1 v n xs) {row : Option Nat} (hg : w.grownBy w' row) (hr : ∀ g, v.ownBlock = some g → row ≠ some g) : w'.ownsRow base e 1 v n xs := by
  refine ⟨h.1, h.2.imp id ?_⟩
  rintro ⟨g, cap, cur, rfl, hb, hh, q⟩
  exact ⟨g, cap, cur, rfl, hb, (hg.block g (Array.getElem?_eq_some_iff.mp hh).1 (fun e => hr g rfl e.symm)).trans hh, q⟩
theorem own_below (h : w.ownsRow base e 1 v n xs) (hb : Below w.heap.size w w') : w'.ownsRow base e 1 v n xs := by
  refine ⟨h.1, h.2.imp id ?_⟩
  rintro ⟨g, cap, cur, rfl, hbb, hh, q⟩
  exact ⟨g, cap, cur, rfl, hbb, (hb.block g (Array.getElem?_eq_some_iff.mp hh).1).trans hh, q⟩
theorem own_ne {e' : TypeId} {m : Nat} {ys : List Value} (h : w.ownsRow base e 1 x n xs) (k : w.ownsRow base e' 1 y m ys) (ne : e ≠ e') : Dj x y := by
  intro g hx hy
  rcases h.2 with ⟨rfl, _⟩ | ⟨g1, cap, cur, rfl, _, hh, _⟩
  · cases hx
  rcases k.2 with ⟨rfl, _⟩ | ⟨g2, cap2, cur2, rfl, _, hh2, _⟩
  · cases hy
  cases hx
  cases hy
  rw [hh] at hh2
  cases hh2
  exact ne rfl
/-- Behind an append the row lies where it lay or is new. -/
theorem Dj.grown {v' : Value} (h : Dj x v) (hx : ∀ g, x.ownBlock = some g → g < w.heap.size) (hat : v'.ownBlock = v.ownBlock ∨ v'.ownBlock = some w.heap.size) : Dj x v' := by
  intro g hg hv
  rcases hat with e | e
  · rw [e] at hv; exact h g hg hv
  · rw [e] at hv
    have := hx g hg
    cases hv
    omega
theorem Dj.symm (h : Dj x y) : Dj y x := fun g a b => h g b a
end
end Go.Proofs.Ytkeikkkcmackeaa
