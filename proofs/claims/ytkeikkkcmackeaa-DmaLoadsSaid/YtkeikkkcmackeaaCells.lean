/- An argument that is a struct, by value: cell by cell. Of whatever program. -/
import Derived.ProofKit
import Derived.OpenShut
import Derived.WideShapes
import Derived.ChangeArms
namespace Go.Proofs.Ytkeikkkcmackeaa
open Go.ChangeShapes Go.WideShapes Go.RowKit
section
variable {H : Type} {enc : TypeId × Value → H} {P : Program} {w : World} {base : Nat} {spare : Nat → Bool} {held : Bool} {n : Nat}
theorem openCells {r : Reach} {b0 : Nat} {t : TypeId} {fs : Array Field} {v : Value} {d : DataW H} {p : List MemPlace} (hs : P.underlying t = some (.struct fs)) (hv : Value.okWide P w r b0 t v) (h : DataW.Trod enc P w base spare held t v d p) :
    ∃ (cs : List Value) (n : Nat), v = .agg cs.toArray ∧ cs.length = P.cellsOf t ∧ ∀ (i : Nat) (f : Field), fs[i]? = some f → ∃ y, DataW.trod enc P w base spare held n f.type ((cs.drop f.offset).take (P.cellsOf f.type)) = some y := by
  obtain ⟨cs, rfl, hsz⟩ := okWide_struct hs hv
  obtain ⟨fuel, hf⟩ := h
  obtain ⟨xs, n, _, hx, _, hlen, hg⟩ := DataW.trod_struct hs hf
  refine ⟨cs.toList, n, by simp, by simpa using hsz, fun i f hi => ?_⟩
  have hil : i < xs.length := by rw [hlen]; exact (Array.getElem?_eq_some_iff.1 hi).1
  exact ⟨xs[i], by have := hg i f hi; rw [List.getElem?_eq_getElem hil] at this; exact this⟩
theorem take_one {cs : List Value} {o : Nat} {x : Value} (h : (cs.drop o).take 1 = [x]) : cs[o]? = some x := by
  have : ((cs.drop o).take 1)[0]? = some x := by rw [h]; rfl
  rwa [List.getElem?_take, if_pos (by omega), List.getElem?_drop, Nat.add_zero] at this
theorem cellInt {T : TypeId} {k : IntKind} {cs : List Value} {o : Nat} {y : DataW H × List MemPlace} (hT : P.underlying T = some (.int k)) (h : DataW.trod enc P w base spare held n T ((cs.drop o).take 1) = some y) : ∃ x, cs[o]? = some (.int k x) ∧ (Lit.int k x).wf = true := by
  obtain ⟨x, hx, _, hw⟩ := DataW.trod_int hT h
  exact ⟨x, take_one hx, hw⟩
theorem cellBool {T : TypeId} {cs : List Value} {o : Nat} {y : DataW H × List MemPlace} (hT : P.underlying T = some .bool) (h : DataW.trod enc P w base spare held n T ((cs.drop o).take 1) = some y) : ∃ x, cs[o]? = some (.bool x) := by
  obtain ⟨x, hx, _⟩ := DataW.trod_bool hT h
  exact ⟨x, take_one hx⟩
/-- A row of numbers in a struct. -/
theorem cellRow {T E : TypeId} {k : IntKind} {m : Nat} {cs : List Value} {o : Nat} {y : DataW H × List MemPlace} (hT : P.underlying T = some (.array m E)) (hE : P.underlying E = some (.int k)) (hc : P.cellsOf E = 1) (h : DataW.trod enc P w base spare held n T ((cs.drop o).take m) = some y) :
    ∀ i, i < m → ∃ x, cs[o + i]? = some (.int k x) ∧ (Lit.int k x).wf = true := by
  obtain ⟨xs, m', _, _, _, hlen, hg⟩ := DataW.trod_array hT h
  intro i hi
  have := hg i hi
  rw [hc, Nat.mul_one, List.getElem?_eq_getElem (by omega)] at this
  obtain ⟨x, hx, _, hw⟩ := DataW.trod_int hE this
  refine ⟨x, ?_, hw⟩
  have e : (((cs.drop o).take m).drop i).take 1 = ((cs.drop (o + i)).take 1) := by
    rw [List.drop_take, List.drop_drop, List.take_take]
    congr 1
    omega
  rw [e] at hx
  exact take_one hx
theorem cellGrid {T A E : TypeId} {k : IntKind} {m q : Nat} {cs : List Value} {o : Nat} {y : DataW H × List MemPlace} (hT : P.underlying T = some (.array m A)) (hA : P.underlying A = some (.array q E)) (hE : P.underlying E = some (.int k)) (hcA : P.cellsOf A = q) (hcE : P.cellsOf E = 1)
    (h : DataW.trod enc P w base spare held n T ((cs.drop o).take (m * q)) = some y) :
    ∀ i, i < m * q → ∃ x, cs[o + i]? = some (.int k x) ∧ (Lit.int k x).wf = true := by
  obtain ⟨xs, m', _, _, _, hlen, hg⟩ := DataW.trod_array hT h
  intro i hi
  have hq : 0 < q := by
    rcases Nat.eq_zero_or_pos q with h | h
    · subst h; simp at hi
    · exact h
  have hc : i / q < m := (Nat.div_lt_iff_lt_mul hq).mpr hi
  have := hg (i / q) hc
  rw [hcA, List.getElem?_eq_getElem (by omega)] at this
  have hle : i / q * q + q ≤ m * q := by rw [← Nat.succ_mul]; exact Nat.mul_le_mul_right q hc
  have e : (((cs.drop o).take (m * q)).drop (i / q * q)).take q = ((cs.drop (o + i / q * q)).take q) := by
    rw [List.drop_take, List.drop_drop, List.take_take]
    congr 1
    omega
  rw [e] at this
  obtain ⟨x, hx, hw⟩ := cellRow hA hE hcE this (i % q) (Nat.mod_lt _ hq)
  refine ⟨x, ?_, hw⟩
  have e2 : o + i / q * q + i % q = o + i := by have := Nat.div_add_mod i q; rw [Nat.mul_comm] at this; omega
  rw [e2] at hx
  exact hx
end
end Go.Proofs.Ytkeikkkcmackeaa
