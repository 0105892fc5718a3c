/- save: what a writer does, if nothing went wrong so far. -/
import Derived.Test.YtkeikkkcmackeaaSaveD
import Derived.Defers
import Derived.Recover
namespace Go.Proofs.Ytkeikkkcmackeaa
open Go.RowKit
set_option linter.unusedVariables false
set_option linter.unusedSimpArgs false
set_option maxRecDepth 100000
/-- Nothing was raised: nothing is caught. -/
theorem caught_idle (p : Addr) (w : World) :
    CallsD Try.prog 90 #[.pointer (some p)] .returning w fun e u' w' => e = .returned (.tuple #[]) ∧ u' = .returning ∧ w' = w := by
  refine callsD_of_wpS Try.func90 rfl fun c₀ cs hu => ?_
  apply wpS_seq
  apply wpS_region
  simp [wpOpsS, go_sem, recoverD, hu, Try.ntmps90, Exit.thenS]
  refine wpS_of_wp ?_
  go_wp2_with fail
  cases c₀
  simp_all [bodyPostS, results, Try.results90]
set_option maxHeartbeats 2000000 in
theorem does_any {w : World} {g : Nat} {bv : Value} {bs : List Int} (H : Wr w g bv bs) (F : Nat) (caps : Array Value) (eg : ∀ args w, (callFunc F args).run Try.prog w = .ok (.enter F args) w) {R : World → Prop}
    (hcall : Calls Try.prog F caps w fun e w' => e = .returned (.tuple #[]) ∧ R w') :
    Calls Try.prog 78 #[.pointer (some ⟨g, 0, none⟩), .func (.func F) #[] caps] w fun e w' => e = .returned (.tuple #[]) ∧ R w' := by
  obtain ⟨_, _, _, c18⟩ := H.facts
  have HC := Lib.hid hcall
  clear hcall H
  go_enter_defers Try.func78, Try.ntmps78
  go_wp2_with fail
  refine HC.out.mono ?_
  rintro e w1 ⟨rfl, hr⟩
  have HR := Lib.hid hr
  clear hr HC
  go_wp2_with fail
  refine leaves_cons (f := 90) (args := #[.pointer (some ⟨g, 18, none⟩)]) (by simp) (by simp [go_sem]) ?_
  refine (caught_idle ⟨g, 18, none⟩ _).mono ?_
  rintro e u' w'' ⟨rfl, rfl, rfl⟩
  simp [Leaves, settle, results, Try.results78, go_sem]
  exact HR.out
end Go.Proofs.Ytkeikkkcmackeaa
