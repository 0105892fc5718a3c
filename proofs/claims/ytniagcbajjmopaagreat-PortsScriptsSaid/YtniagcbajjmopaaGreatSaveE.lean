/- save: what a writer does, if nothing went wrong so far. -/
import Derived.Test.YtniagcbajjmopaaGreatSaveD
import Derived.Defers
import Derived.Recover
namespace Go.Proofs.YtniagcbajjmopaaGreat
open Go.RowKit
set_option linter.unusedVariables false
set_option linter.unusedSimpArgs false
set_option maxRecDepth 100000
/-- Nothing was raised: nothing is caught. -/
theorem caught_idle (p : Addr) (w : World) :
    CallsD Tryz.prog 97 #[.pointer (some p)] .returning w fun e u' w' => e = .returned (.tuple #[]) ∧ u' = .returning ∧ w' = w := by
  refine callsD_of_wpS Tryz.func97 rfl fun c₀ cs hu => ?_
  apply wpS_seq
  apply wpS_region
  simp [wpOpsS, go_sem, recoverD, hu, Tryz.ntmps97, Exit.thenS]
  refine wpS_of_wp ?_
  go_wp2_with fail
  cases c₀
  simp_all [bodyPostS, results, Tryz.results97]
set_option maxHeartbeats 2000000 in
theorem does_any {w : World} {g : Nat} {bv : Value} {bs : List Int} (H : Wr w g bv bs) (F : Nat) (caps : Array Value) (eg : ∀ args w, (callFunc F args).run Tryz.prog w = .ok (.enter F args) w) {R : World → Prop}
    (hcall : Calls Tryz.prog F caps w fun e w' => e = .returned (.tuple #[]) ∧ R w') :
    Calls Tryz.prog 77 #[.pointer (some ⟨g, 0, none⟩), .func (.func F) #[] caps] w fun e w' => e = .returned (.tuple #[]) ∧ R w' := by
  obtain ⟨_, _, _, c18⟩ := H.facts
  have HC := Lib.hid hcall
  clear hcall H
  go_enter_defers Tryz.func77, Tryz.ntmps77
  go_wp2_with fail
  refine HC.out.mono ?_
  rintro e w1 ⟨rfl, hr⟩
  have HR := Lib.hid hr
  clear hr HC
  go_wp2_with fail
  refine leaves_cons (f := 97) (args := #[.pointer (some ⟨g, 18, none⟩)]) (by simp) (by simp [go_sem]) ?_
  refine (caught_idle ⟨g, 18, none⟩ _).mono ?_
  rintro e u' w'' ⟨rfl, rfl, rfl⟩
  simp [Leaves, settle, results, Tryz.results77, go_sem]
  exact HR.out
end Go.Proofs.YtniagcbajjmopaaGreat
