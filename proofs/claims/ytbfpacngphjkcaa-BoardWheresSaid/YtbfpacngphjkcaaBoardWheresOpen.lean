/- BoardWheres: its arguments, opened. -/
import Derived.Test.YtbfpacngphjkcaaBoardWheresWalk
import Derived.Test.YtbfpacngphjkcaaBoardO
namespace Go.Proofs.Ytbfpacngphjkcaa.boardWheres
open Go.RowKit Go.ChangeShapes Go.WideShapes Go.ChangeAt
theorem openSpot {H : Type} {enc : TypeId × Value → H} {W : World} {base : Nat} {v : Value} {d : DataW H} {p : List MemPlace} (k : Value.okWide Try.prog W .any base 40 v) (h : DataW.Trod enc Try.prog W 0 (fun _ => true) true 40 v d p) :
    ∃ q t, v = spotV (q, t) ∧ 0 ≤ q ∧ q ≤ 255 ∧ -9223372036854775808 ≤ t ∧ t ≤ 9223372036854775807 := by
  obtain ⟨c0, c1, z0, z1, m, rfl, rfl, rfl, hy0, hy1⟩ := Go.Joins.open_agg2 Try.underlying40 (by kernel_rfl) (by kernel_rfl) k h
  obtain ⟨q, e0, rfl, w0⟩ := DataW.trod_int Try.underlying5 hy0
  obtain ⟨t, e1, rfl, w1⟩ := DataW.trod_int Try.underlying3 hy1
  simp at e0 e1
  subst e0 e1
  have := wf_u8 w0
  have := wf_i64 w1
  exact ⟨q, t, rfl, by omega, by omega, by omega, by omega⟩
set_option maxRecDepth 100000 in
theorem walk (H : Type) (enc : TypeId × Value → H) (W : World) (base : Nat) (v0 v1 v2 : Value) {d0 d1 d2 : DataW H} {p0 p1 p2 : List MemPlace} (k0 : Value.okWide Try.prog W .any base 23 v0) (h0 : DataW.Trod enc Try.prog W 0 (fun _ => true) true 23 v0 d0 p0)
    (k1 : Value.okWide Try.prog W .any base 40 v1) (h1 : DataW.Trod enc Try.prog W 0 (fun _ => true) true 40 v1 d1 p1)
    (k2 : Value.okWide Try.prog W .any base 3 v2) (h2 : DataW.Trod enc Try.prog W 0 (fun _ => true) true 3 v2 d2 p2) :
    Calls Try.prog 9 #[v0, v1, v2] W fun e w' => e = .returned (.bool true) ∧ Below W.heap.size W w' := by
  obtain ⟨lay, rom, ram, by_, rfl, l0, l1, y0, y1, r0, r1, _, _⟩ := openPlan k0 h0
  obtain ⟨q, t, rfl, q0, q1, t0, t1⟩ := openSpot k1 h1
  obtain ⟨x, rfl, rfl, rfl, hx⟩ := open_int Try.underlying3 k2 h2
  exact law lay rom ram by_ q t x W q0 q1 (wf_i64 hx).1 (wf_i64 hx).2 t0 t1 l0 l1 y0 y1 r0 r1
end Go.Proofs.Ytbfpacngphjkcaa.boardWheres
