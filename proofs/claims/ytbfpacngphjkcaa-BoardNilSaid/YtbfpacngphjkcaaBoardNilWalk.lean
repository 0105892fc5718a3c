/- The walk of the law BoardNil: a board that is none. -/
import Derived.Test.YtbfpacngphjkcaaChecked
import Derived.Test.YtbfpacngphjkcaaKit
import Derived.ProofKit
namespace Go.Proofs.Ytbfpacngphjkcaa.boardNil
open Go.RowKit Go.ChangeShapes
set_option linter.unusedVariables false

theorem decode_nil (x : Int) (w : World) (h0 : 0 ≤ x) (h1 : x ≤ 4294967295) :
    Calls Try.prog 19 #[.pointer none, .int .u32 x] w fun e w' => e = .returned (.agg #[.int .u8 0, .int .i64 0]) ∧ w.alloc (.cells #[.int .u8 0, .int .i64 0] 40) = w' := by
  go_enter Try.func19, Try.ntmps19
  go_wp2
  exact bodyPost_ret (v := .agg #[.int .u8 0, .int .i64 0]) (by simp [results, Try.results19, go_sem]) rfl ⟨rfl, rfl⟩

theorem read_nil (x : Int) (w : World) (h0 : 0 ≤ x) (h1 : x ≤ 4294967295) :
    Calls Try.prog 17 #[.pointer none, .int .u32 x] w fun e w' => e = .returned (.tuple #[.int .u8 0, .bool false]) ∧ Below w.heap.size w w' := by
  go_enter Try.func17, Try.ntmps17
  go_wp2_with (go_at_call 19; refine (decode_nil _ _ h0 h1).mono ?_; rintro e w' ⟨rfl, rfl⟩)
  go_ret2
  exact ⟨rfl, by repeat (first | exact Below.refl _ _ | apply belowM | apply belowA)⟩

theorem write_nil (x v : Int) (w : World) (h0 : 0 ≤ x) (h1 : x ≤ 4294967295) :
    Calls Try.prog 18 #[.pointer none, .int .u32 x, .int .u8 v] w fun e w' => e = .returned (.bool false) ∧ Below w.heap.size w w' := by
  go_enter Try.func18, Try.ntmps18
  go_wp2_with (go_at_call 19; refine (decode_nil _ _ h0 h1).mono ?_; rintro e w' ⟨rfl, rfl⟩)
  go_ret
  exact ⟨rfl, by repeat (first | exact Below.refl _ _ | apply belowM | apply belowA)⟩

theorem law (x v : Int) (w : World) (h0 : 0 ≤ x) (h1 : x ≤ 4294967295) :
    Calls Try.prog 4 #[.int .u32 x, .int .u8 v] w fun e w' => e = .returned (.bool true) ∧ Below w.heap.size w w' := by
  go_enter Try.func4, Try.ntmps4
  try simp only [List.append_eq, List.cons_append, List.nil_append]
  go_wp2_with (first | (go_at_call 19; refine (decode_nil _ _ h0 h1).mono ?_; rintro e w' ⟨rfl, rfl⟩) | (go_at_call 17; refine (read_nil _ _ h0 h1).mono ?_; rintro e w' ⟨rfl, hb⟩; obtain ⟨x1, rfl⟩ := more_of_below hb; clear hb) | (go_at_call 18; refine (write_nil _ _ _ h0 h1).mono ?_; rintro e w' ⟨rfl, hb⟩; obtain ⟨x2, rfl⟩ := more_of_below hb; clear hb) | go_in)
  go_ret
  exact ⟨rfl, by repeat (first | exact Below.refl _ _ | apply belowM | apply belowA)⟩

set_option maxRecDepth 100000 in
theorem walk (H : Type) (enc : TypeId × Value → H) (W : World) (base : Nat) (v0 v1 : Value) {d0 d1 : DataW H} {p0 p1 : List MemPlace} (k0 : Value.okWide Try.prog W .any base 35 v0) (h0 : DataW.Trod enc Try.prog W 0 (fun _ => true) true 35 v0 d0 p0)
    (k1 : Value.okWide Try.prog W .any base 5 v1) (h1 : DataW.Trod enc Try.prog W 0 (fun _ => true) true 5 v1 d1 p1) :
    Calls Try.prog 4 #[v0, v1] W fun e w' => e = .returned (.bool true) ∧ Below W.heap.size W w' := by
  obtain ⟨x, rfl, rfl, rfl, hx⟩ := open_int Try.underlying35 k0 h0
  obtain ⟨v, rfl, rfl, rfl, _⟩ := open_int Try.underlying5 k1 h1
  have b : 0 ≤ x ∧ x ≤ 4294967295 := by
    simp [Lit.wf, IntKind.min, IntKind.max, IntKind.signed, IntKind.bits] at hx
    omega
  exact law x v W b.1 b.2

end Go.Proofs.Ytbfpacngphjkcaa.boardNil
