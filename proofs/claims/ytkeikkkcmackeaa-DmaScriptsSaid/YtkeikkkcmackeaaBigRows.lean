/- A whole struct stored into a block. Of whatever program. A whole struct of many small cells loaded and stored, by what is seen, whatever its block's size. Of whatever program. -/
import Derived.Test.YtkeikkkcmackeaaArr
import Derived.Deep.WholeRow
import Derived.Laws.IdiomCopy
import Derived.Laws.Rows
namespace Go.Proofs.Ytkeikkkcmackeaa
open Go.RowKit
theorem run_storeCells_row {P : Program} (w : World) (g : Nat) (t : TypeId) (c c' : Array Value) (hg : w.heap[g]? = some (.cells c t (0, 0))) (hi : (P.info? t).map (·.size) = some c'.size) (ho : c.size = c'.size) (h1 : c'.all (·.oneCell') = true) :
    (storeCells ⟨g, 0, none⟩ c'.toList 0).run P w = .ok () (w.setRow g c') := by
  have := run_storeVar_row (P := P) w g t t c c' hg hi ho h1
  cases hq : P.info? t with
  | none => simp [hq] at hi
  | some i =>
    have hs : c'.size = i.size := by simp [hq] at hi; omega
    simpa [storeVar, sizeOf, typeInfo, hq, Value.cells, hs] using this
theorem setRow_other (w : World) (g i : Nat) (c : Array Value) (h : i ≠ g) : (w.setRow g c).heap[i]? = w.heap[i]? := by
  unfold World.setRow
  simp only [Array.getElem?_modify]
  rw [if_neg (fun e => h e.symm)]
theorem Upd.row {w w' : World} {g : Nat} (h : Upd w g w') (c : Array Value) : Upd w g (w'.setRow g c) :=
  h.trans ⟨rfl, rfl, rfl, by simp, fun i _ n => setRow_other w' g i c n⟩
theorem Blk.row {w : World} {g : Nat} {t : TypeId} {c : Array Value} (h : Blk w g t c) (c' : Array Value) : Blk (w.setRow g c') g t c' := setRow_heap w g c c' t (0, 0) h
theorem Upd.ofRow (w : World) (g : Nat) (c : Array Value) : Upd w g (w.setRow g c) := (Upd.refl w g).row c
end Go.Proofs.Ytkeikkkcmackeaa

namespace Go.Proofs.Ytkeikkkcmackeaa
open Go.RowKit
theorem run_loadVar_seen {P : Program} (w : World) (g : Nat) (ty : TypeId) (cs : Array Value) (d : TypeDesc) (hg : ∀ j v, cs[j]? = some v → w.cell? ⟨g, j, none⟩ = some v)
    (hu : P.underlying ty = some d) (hd : (match d with | .struct _ | .array _ _ => true | _ => false) = true) (hi : (P.info? ty).map (·.size) = some cs.size) :
    (loadVar ty ⟨g, 0, none⟩).run P w = .ok (.agg cs) w := by
  have hl : (loadCells ⟨g, 0, none⟩ cs.toList.length).run P w = .ok cs.toList.toArray w :=
    run_loadCells_list (P := P) w ⟨g, 0, none⟩ cs.toList (fun j v hv => by
      have hadd : (⟨g, 0, none⟩ : Addr).add j = ⟨g, j, none⟩ := by unfold Addr.add; split <;> simp_all
      rw [hadd]
      exact hg j v (by simpa using hv))
  cases hq : P.info? ty with
  | none => simp [hq] at hi
  | some i =>
    have hs : i.size = cs.size := by simpa [hq] using hi
    have hagg : (isAgg ty).run P w = .ok true w := by
      unfold isAgg
      rw [Sem.run_bind, run_underlying hu w]
      cases d <;> simp_all
    simp only [Array.length_toList, Array.toArray_toList] at hl
    simp [loadVar, Sem.run_bind, hagg, sizeOf, typeInfo, hq, hs, hl]
theorem wpList_load_seen {P : Program} {ops : Array Oper} {rest : List Oper} {o : Oper} {a : Act} {w : World} {Q : Exit → Act → World → Prop} (hgd : o.guard = none) (ty : TypeId) (x : Operand) (ho : o.op = .load ty x)
    (g : Nat) (hx : a.eval x = .pointer (some ⟨g, 0, none⟩)) (cs : Array Value) (d : TypeDesc) (hg : ∀ j v, cs[j]? = some v → w.cell? ⟨g, j, none⟩ = some v)
    (hu : P.underlying ty = some d) (hd : (match d with | .struct _ | .array _ _ => true | _ => false) = true) (hi : (P.info? ty).map (·.size) = some cs.size)
    (h : wpList P ops Q rest (a.put o.dst (.agg cs)) w) : wpList P ops Q (o :: rest) a w := by
  refine wpList_plain hgd fun K hK => ?_
  unfold Oper.wp execOp
  simp only [ho, hx, Instr.loadAt, Instr.sureAddr, Sem.run_bind, Sem.run_pure, Result.andThen_ok, run_loadVar_seen w g ty cs d hg hu hd hi]
  exact hK _ _ h
theorem Upd.cells {w : World} {g : Nat} : ∀ (vs : List Value) (o : Nat) {w' : World}, Upd w g w' → Upd w g (w'.setCells g o vs)
  | [], _, _, h => h
  | v :: r, o, _, h => Upd.cells r (o + 1) (h.set o v)
theorem Arr.cells {k : IntKind} {E : TypeId} {g n : Nat} (r : Nat → Int) : ∀ (m o : Nat) {w : World} {f : Nat → Int}, Arr w k E g n f → o + m ≤ n → Arr (w.setCells g o ((List.range' o m).map fun j => .int k (r j))) k E g n (fun j => if o ≤ j ∧ j < o + m then r j else f j)
  | 0, o, _, f, h, _ => h.congr (fun j _ => by rw [if_neg (by omega)])
  | m + 1, o, _, f, h, hm => by
    rw [List.range'_succ, List.map_cons]
    refine (Arr.cells r m (o + 1) (h.set (i := o) (by omega) (r o)) (by omega)).congr (fun j _ => ?_)
    by_cases e : j = o
    · subst e; rw [if_neg (by omega), if_pos rfl, if_pos (by omega)]
    · by_cases e2 : o + 1 ≤ j ∧ j < o + 1 + m
      · rw [if_pos e2, if_pos (by omega)]
      · rw [if_neg e2, if_neg e, if_neg (by omega)]
end Go.Proofs.Ytkeikkkcmackeaa
