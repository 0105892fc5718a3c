/- Cells filled one behind the other. Of whatever program. -/
import Derived.Test.YtniagcbajjmopaaGreatKits
namespace Go.Proofs.YtniagcbajjmopaaGreat
/-- Cells, some of them laid anew. -/
def setAll (cs : Array Value) (l : List (Nat × Value)) : Array Value := l.foldl (fun a p => a.setIfInBounds p.1 p.2) cs
theorem setAll_size (l : List (Nat × Value)) (cs : Array Value) : (setAll cs l).size = cs.size := by
  unfold setAll
  induction l generalizing cs with
  | nil => rfl
  | cons p l ih => rw [List.foldl_cons, ih]; simp
theorem setAll_zero (cs : Array Value) (l : List (Nat × Value)) : setAll cs (l.take 0) = cs := by simp [setAll]
theorem setAll_snoc (cs : Array Value) (l : List (Nat × Value)) (k : Nat) (o : Nat) (v : Value) (h : l[k]? = some (o, v)) : setAll cs (l.take (k + 1)) = (setAll cs (l.take k)).setIfInBounds o v := by
  unfold setAll
  obtain ⟨hk, e⟩ := List.getElem?_eq_some_iff.1 h
  rw [List.take_succ_eq_append_getElem hk, List.foldl_append, e]
  rfl
theorem setAll_some (cs : Array Value) (l : List (Nat × Value)) (o : Nat) (h : o < cs.size) : ∃ u, (setAll cs l)[o]? = some u := ⟨_, Array.getElem?_eq_getElem (by rw [setAll_size]; exact h)⟩
end Go.Proofs.YtniagcbajjmopaaGreat
