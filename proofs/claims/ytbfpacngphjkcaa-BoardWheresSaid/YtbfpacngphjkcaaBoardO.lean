/- Arguments of the board's laws, opened. -/
import Derived.Test.YtbfpacngphjkcaaBoardG
import Derived.SizedLaws
import Derived.Lib.SmallJoins
namespace Go.Proofs.Ytbfpacngphjkcaa
open Go.RowKit
section
open Go.ChangeShapes Go.WideShapes Go.ChangeAt
theorem wf_u8 {n : Int} (h : (Lit.int .u8 n).wf = true) : 0 ≤ n ∧ n ≤ 255 := by
  simp [Lit.wf, IntKind.min, IntKind.max, IntKind.signed, IntKind.bits] at h
  omega
theorem wf_u32 {n : Int} (h : (Lit.int .u32 n).wf = true) : 0 ≤ n ∧ n ≤ 4294967295 := by
  simp [Lit.wf, IntKind.min, IntKind.max, IntKind.signed, IntKind.bits] at h
  omega
theorem wf_i64 {n : Int} (h : (Lit.int .i64 n).wf = true) : -9223372036854775808 ≤ n ∧ n ≤ 9223372036854775807 := by
  simp [Lit.wf, IntKind.min, IntKind.max, IntKind.signed, IntKind.bits] at h
  omega
/-- An argument of type Plan. -/
theorem openPlan {H : Type} {enc : TypeId × Value → H} {W : World} {base : Nat} {v : Value} {d : DataW H} {p : List MemPlace} (k : Value.okWide Try.prog W .any base 23 v) (h : DataW.Trod enc Try.prog W 0 (fun _ => true) true 23 v d p) :
    ∃ lay rom ram by_, v = planV lay rom ram by_ ∧ 0 ≤ lay ∧ lay ≤ 255 ∧ 0 ≤ by_ ∧ by_ ≤ 255 ∧ -9223372036854775808 ≤ rom ∧ rom ≤ 9223372036854775807 ∧ -9223372036854775808 ≤ ram ∧ ram ≤ 9223372036854775807 := by
  obtain ⟨c0, c1, c2, c3, z0, z1, z2, z3, m, rfl, rfl, rfl, hy0, hy1, hy2, hy3⟩ := Go.Joins.open_agg4 Try.underlying23 (by kernel_rfl) (by kernel_rfl) k h
  obtain ⟨lay, e0, rfl, w0⟩ := DataW.trod_int Try.underlying5 hy0
  obtain ⟨rom, e1, rfl, w1⟩ := DataW.trod_int Try.underlying3 hy1
  obtain ⟨ram, e2, rfl, w2⟩ := DataW.trod_int Try.underlying3 hy2
  obtain ⟨by_, e3, rfl, w3⟩ := DataW.trod_int Try.underlying5 hy3
  simp at e0 e1 e2 e3
  subst e0 e1 e2 e3
  have := wf_u8 w0
  have := wf_i64 w1
  have := wf_i64 w2
  have := wf_u8 w3
  exact ⟨lay, rom, ram, by_, rfl, by omega, by omega, by omega, by omega, by omega, by omega, by omega, by omega⟩
end
end Go.Proofs.Ytbfpacngphjkcaa
