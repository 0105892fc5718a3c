/- ports: what is saved, as time goes on. -/
import Derived.Test.YtniagcbajjmopaaGreatPortsT
import Derived.Test.YtniagcbajjmopaaGreatPortsP
import Derived.Test.YtniagcbajjmopaaGreatSame
namespace Go.Proofs.YtniagcbajjmopaaGreat
open Go.RowKit
set_option linter.unusedVariables false
set_option linter.unusedSimpArgs false
set_option maxRecDepth 100000
theorem portB_like {s s' : Pt} (h : like s s') : portB s = portB s' := by
  have h' : ({ s with soon := 0 } : Pt) = { s' with soon := 0 } := h
  have e : ∀ s : Pt, portB s = portB { s with soon := 0 } := fun _ => rfl
  rw [e s, e s', h']
theorem Rng.happen {s : Pt} (R : Rng s) (t : Int) : Rng (Proofs.YtniagcbajjmopaaGreat.happen s t) := by
  refine ⟨fun x hx => ?_, fun x hx => R.b x hx⟩
  simp only [wVals, List.mem_cons, List.not_mem_nil, or_false] at hx
  have k : ∀ y, y ∈ wVals s → 0 ≤ y ∧ y ≤ 65535 := R.w
  rcases hx with rfl | rfl | rfl | rfl | rfl | rfl | rfl | rfl | rfl | rfl | rfl
  · exact k _ (by simp [wVals, Proofs.YtniagcbajjmopaaGreat.happen])
  · exact k _ (by simp [wVals, Proofs.YtniagcbajjmopaaGreat.happen])
  · exact k _ (by simp [wVals, Proofs.YtniagcbajjmopaaGreat.happen])
  · exact k _ (by simp [wVals, Proofs.YtniagcbajjmopaaGreat.happen])
  · exact k _ (by simp [wVals, Proofs.YtniagcbajjmopaaGreat.happen])
  · exact k _ (by simp [wVals, Proofs.YtniagcbajjmopaaGreat.happen])
  · exact k _ (by simp [wVals, Proofs.YtniagcbajjmopaaGreat.happen])
  · unfold Proofs.YtniagcbajjmopaaGreat.happen
    dsimp only
    split <;> exact k _ (by simp [wVals])
  · unfold Proofs.YtniagcbajjmopaaGreat.happen
    dsimp only
    split <;> exact k _ (by simp [wVals])
  · exact k _ (by simp [wVals, Proofs.YtniagcbajjmopaaGreat.happen])
  · exact k _ (by simp [wVals, Proofs.YtniagcbajjmopaaGreat.happen])
theorem Rng.ticks {s : Pt} (R : Rng s) (n : Nat) : Rng (Proofs.YtniagcbajjmopaaGreat.ticks n s) := by
  induction n generalizing s with
  | zero => exact R
  | succ n ih => exact ih (R.happen _)
theorem Rng.like {s s' : Pt} (R : Rng s) (h : like s' s) : Rng s' := by
  have h' : ({ s' with soon := 0 } : Pt) = { s with soon := 0 } := h
  have e : ∀ s : Pt, wVals s = wVals { s with soon := 0 } := fun _ => rfl
  have e2 : ∀ s : Pt, bVals s = bVals { s with soon := 0 } := fun _ => rfl
  exact ⟨fun x hx => R.w x (by rw [e s, ← h', ← e s']; exact hx), fun x hx => R.b x (by rw [e2 s, ← h', ← e2 s']; exact hx)⟩
theorem Going.rng {s s' : Pt} {T : Int} (G : Going s T s') (R : Rng s) : Rng s' := (R.ticks _).like G.like_
end Go.Proofs.YtniagcbajjmopaaGreat
