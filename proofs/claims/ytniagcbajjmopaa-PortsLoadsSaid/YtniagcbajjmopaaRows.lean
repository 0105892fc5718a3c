/-
  No cell of these rows narrows 'for every input' (looked for: loops, veiled, ifaces, maps, wideKeys, modest, calm, conditions, laid).
  DERIVED. THE GIVEN ROWS OF THIS SEAT. 5 by the template 'for every input the law returns true; each argument reads behind the call as it read before'; 0 by the template 'total and deterministic' (their statements: YtniagcbajjmopaaTotals.lean).
  GIVEN WITH THE SEED: the statements are not yours to turn. If you find one false, say at which input.
  Laid BY PROGRAM, IN A SANDBOX (cutbox-rows.mjs): the forced cells as the released guide's own fill.sh prints them over the translation 264a510aab1b372f… (all of the seat's roots in one cut). By AI agents, Wed Nov 11 2026. No macro, syntax, notation, axiom, sorry.
-/
import Derived.Test.YtniagcbajjmopaaChecked
import GoSem.Claim
import GoSem.ClaimJoined
import GoSem.ClaimMapViews
import Derived.JoinedTies
import Derived.KernelRfl
namespace Go.Proofs.Ytniagcbajjmopaa
/- THE CELL 'sum', in the pinned program and in every row, IS THE sha256 OF THE DUMP (.gsa) THAT YtniagcbajjmopaaProg.lean LOADS. Nothing in Lean hashes anything: it is a label: what it is worth is what the hold of that sum in a sandbox is worth. -/
noncomputable def Try.pinned : Pinned := { name := "ytniagcbajjmopaa", sum := "264a510aab1b372fb6fc7647e5c0c8629c2ba1f0d9aafeb8acdcb36a98dd4dea", checked := Try.checked }
namespace Rows
def none {H : Type} : Left H := { results := [], args := [] }

/-- 'lanthornlaw25.PortsMath': WHATEVER THE INPUT: true; the input reads as it did. -/
def portsMathSpec : ChangeSpec := { name := "portsMath", fn := fun _ => fun
  | [d1, d2, d3] => { results := [.lit (.bool true)], args := [d1, d2, d3] }
  | _ => none }
def portsMathRow : OpenClaim := { program := "ytniagcbajjmopaa", sum := "264a510aab1b372fb6fc7647e5c0c8629c2ba1f0d9aafeb8acdcb36a98dd4dea", func := "lanthorn/lanthornlaw25.PortsMath", spec := "portsMath", unfollowed := true, recurses := true, apart := false }
def PortsMathSaid : Prop := portsMathRow.holds Try.pinned (OpenSpec.ofChange portsMathSpec)

/-- ITS FALSE NEIGHBOUR: 'it returns false'. Refute it at one input. -/
def portsMathWrong : ChangeSpec := { name := "portsMath", fn := fun _ => fun
  | [d1, d2, d3] => { results := [.lit (.bool false)], args := [d1, d2, d3] }
  | _ => none }
def PortsMathWrongFalsely : Prop := portsMathRow.holds Try.pinned (OpenSpec.ofChange portsMathWrong)

/-- 'lanthornlaw25.PortsFrames': WHATEVER THE INPUT: true; the input reads as it did. -/
def portsFramesSpec : ChangeSpec := { name := "portsFrames", fn := fun _ => fun
  | [d1, d2, d3, d4] => { results := [.lit (.bool true)], args := [d1, d2, d3, d4] }
  | _ => none }
def portsFramesRow : OpenClaim := { program := "ytniagcbajjmopaa", sum := "264a510aab1b372fb6fc7647e5c0c8629c2ba1f0d9aafeb8acdcb36a98dd4dea", func := "lanthorn/lanthornlaw25.PortsFrames", spec := "portsFrames", unfollowed := true, recurses := true, apart := false }
def PortsFramesSaid : Prop := portsFramesRow.holds Try.pinned (OpenSpec.ofChange portsFramesSpec)

/-- ITS FALSE NEIGHBOUR: 'it returns false'. Refute it at one input. -/
def portsFramesWrong : ChangeSpec := { name := "portsFrames", fn := fun _ => fun
  | [d1, d2, d3, d4] => { results := [.lit (.bool false)], args := [d1, d2, d3, d4] }
  | _ => none }
def PortsFramesWrongFalsely : Prop := portsFramesRow.holds Try.pinned (OpenSpec.ofChange portsFramesWrong)

/-- 'lanthornlaw25.PortsPads': WHATEVER THE INPUT: true; the input reads as it did. -/
def portsPadsSpec : ChangeSpec := { name := "portsPads", fn := fun _ => fun
  | [d1, d2, d3, d4, d5] => { results := [.lit (.bool true)], args := [d1, d2, d3, d4, d5] }
  | _ => none }
def portsPadsRow : OpenClaim := { program := "ytniagcbajjmopaa", sum := "264a510aab1b372fb6fc7647e5c0c8629c2ba1f0d9aafeb8acdcb36a98dd4dea", func := "lanthorn/lanthornlaw25.PortsPads", spec := "portsPads", unfollowed := true, recurses := true, apart := false }
def PortsPadsSaid : Prop := portsPadsRow.holds Try.pinned (OpenSpec.ofChange portsPadsSpec)

/-- ITS FALSE NEIGHBOUR: 'it returns false'. Refute it at one input. -/
def portsPadsWrong : ChangeSpec := { name := "portsPads", fn := fun _ => fun
  | [d1, d2, d3, d4, d5] => { results := [.lit (.bool false)], args := [d1, d2, d3, d4, d5] }
  | _ => none }
def PortsPadsWrongFalsely : Prop := portsPadsRow.holds Try.pinned (OpenSpec.ofChange portsPadsWrong)

/-- 'lanthornlaw25.PortsSteps': WHATEVER THE INPUT: true; the input reads as it did. -/
def portsStepsSpec : ChangeSpec := { name := "portsSteps", fn := fun _ => fun
  | [d1, d2, d3, d4, d5, d6] => { results := [.lit (.bool true)], args := [d1, d2, d3, d4, d5, d6] }
  | _ => none }
def portsStepsRow : OpenClaim := { program := "ytniagcbajjmopaa", sum := "264a510aab1b372fb6fc7647e5c0c8629c2ba1f0d9aafeb8acdcb36a98dd4dea", func := "lanthorn/lanthornlaw25.PortsSteps", spec := "portsSteps", unfollowed := true, recurses := true, apart := false }
def PortsStepsSaid : Prop := portsStepsRow.holds Try.pinned (OpenSpec.ofChange portsStepsSpec)

/-- ITS FALSE NEIGHBOUR: 'it returns false'. Refute it at one input. -/
def portsStepsWrong : ChangeSpec := { name := "portsSteps", fn := fun _ => fun
  | [d1, d2, d3, d4, d5, d6] => { results := [.lit (.bool false)], args := [d1, d2, d3, d4, d5, d6] }
  | _ => none }
def PortsStepsWrongFalsely : Prop := portsStepsRow.holds Try.pinned (OpenSpec.ofChange portsStepsWrong)

/-- 'lanthornlaw25.PortsLoads': WHATEVER THE INPUT: true; the input reads as it did. -/
def portsLoadsSpec : ChangeSpec := { name := "portsLoads", fn := fun _ => fun
  | [d] => { results := [.lit (.bool true)], args := [d] }
  | _ => none }
def portsLoadsRow : OpenClaim := { program := "ytniagcbajjmopaa", sum := "264a510aab1b372fb6fc7647e5c0c8629c2ba1f0d9aafeb8acdcb36a98dd4dea", func := "lanthorn/lanthornlaw25.PortsLoads", spec := "portsLoads", unfollowed := true, recurses := true, apart := false }
def PortsLoadsSaid : Prop := portsLoadsRow.holds Try.pinned (OpenSpec.ofChange portsLoadsSpec)

/-- ITS FALSE NEIGHBOUR: 'it returns false'. Refute it at one input. -/
def portsLoadsWrong : ChangeSpec := { name := "portsLoads", fn := fun _ => fun
  | [d] => { results := [.lit (.bool false)], args := [d] }
  | _ => none }
def PortsLoadsWrongFalsely : Prop := portsLoadsRow.holds Try.pinned (OpenSpec.ofChange portsLoadsWrong)

/- THE SECOND FORM. 'bulk': how many values and letters a reading holds, each counted each time it is reached (what is shared counts as often as it is met; a slice's spare places count too). A statement '..UptoSaid' is the law's where the arguments, and the package variables that the reading takes, are together of bulk at most 1048576: NARROWER than '..Said'. Prove '..Said' where nothing that the law and all that it calls make is longer than what came in: it says more and counts as full. Else prove '..UptoSaid'. A law counts once. -/
mutual
def uptoBulk {H : Type} : DataW H → Nat
  | .lit (.string bytes) => bytes.length + 1
  | .lit _ => 1
  | .nil => 1
  | .ptr d => uptoBulk d + 1
  | .slice elems spare => uptoBulkAll elems + uptoBulkAll spare + 1
  | .agg parts => uptoBulkAll parts + 1
  | .iface _ d => uptoBulk d + 1
  | .map entries => uptoBulkEntries entries + 1
  | .held _ => 1
def uptoBulkAll {H : Type} : List (DataW H) → Nat
  | [] => 0
  | d :: r => uptoBulk d + uptoBulkAll r
def uptoBulkEntries {H : Type} : List (Lit × DataW H) → Nat
  | [] => 0
  | x :: r => uptoBulkEntry x + uptoBulkEntries r
def uptoBulkEntry {H : Type} : Lit × DataW H → Nat
  | (.string bytes, d) => bytes.length + uptoBulk d + 1
  | (_, d) => uptoBulk d + 1
 end
def uptoSmall : (H : Type) → List (DataW H) → Bool := fun _ ds => decide (uptoBulkAll ds ≤ 1048576)
def OpenSpec.upto (s : _root_.Go.ChangeSpec) : _root_.Go.OpenSpec := { _root_.Go.OpenSpec.ofChange s with cond := some uptoSmall }

/-- 'lanthornlaw25.PortsMath', WHERE WHAT IT READS IS OF BULK AT MOST 1048576: true; the input reads as it did. -/
def portsMathUptoRow : OpenClaim := { program := "ytniagcbajjmopaa", sum := "264a510aab1b372fb6fc7647e5c0c8629c2ba1f0d9aafeb8acdcb36a98dd4dea", func := "lanthorn/lanthornlaw25.PortsMath", spec := "portsMath", unfollowed := true, recurses := true, apart := false, narrowed := true }
def PortsMathUptoSaid : Prop := portsMathUptoRow.holds Try.pinned (OpenSpec.upto portsMathSpec)

/-- 'lanthornlaw25.PortsFrames', WHERE WHAT IT READS IS OF BULK AT MOST 1048576: true; the input reads as it did. -/
def portsFramesUptoRow : OpenClaim := { program := "ytniagcbajjmopaa", sum := "264a510aab1b372fb6fc7647e5c0c8629c2ba1f0d9aafeb8acdcb36a98dd4dea", func := "lanthorn/lanthornlaw25.PortsFrames", spec := "portsFrames", unfollowed := true, recurses := true, apart := false, narrowed := true }
def PortsFramesUptoSaid : Prop := portsFramesUptoRow.holds Try.pinned (OpenSpec.upto portsFramesSpec)

/-- 'lanthornlaw25.PortsPads', WHERE WHAT IT READS IS OF BULK AT MOST 1048576: true; the input reads as it did. -/
def portsPadsUptoRow : OpenClaim := { program := "ytniagcbajjmopaa", sum := "264a510aab1b372fb6fc7647e5c0c8629c2ba1f0d9aafeb8acdcb36a98dd4dea", func := "lanthorn/lanthornlaw25.PortsPads", spec := "portsPads", unfollowed := true, recurses := true, apart := false, narrowed := true }
def PortsPadsUptoSaid : Prop := portsPadsUptoRow.holds Try.pinned (OpenSpec.upto portsPadsSpec)

/-- 'lanthornlaw25.PortsSteps', WHERE WHAT IT READS IS OF BULK AT MOST 1048576: true; the input reads as it did. -/
def portsStepsUptoRow : OpenClaim := { program := "ytniagcbajjmopaa", sum := "264a510aab1b372fb6fc7647e5c0c8629c2ba1f0d9aafeb8acdcb36a98dd4dea", func := "lanthorn/lanthornlaw25.PortsSteps", spec := "portsSteps", unfollowed := true, recurses := true, apart := false, narrowed := true }
def PortsStepsUptoSaid : Prop := portsStepsUptoRow.holds Try.pinned (OpenSpec.upto portsStepsSpec)

/-- 'lanthornlaw25.PortsLoads', WHERE WHAT IT READS IS OF BULK AT MOST 1048576: true; the input reads as it did. -/
def portsLoadsUptoRow : OpenClaim := { program := "ytniagcbajjmopaa", sum := "264a510aab1b372fb6fc7647e5c0c8629c2ba1f0d9aafeb8acdcb36a98dd4dea", func := "lanthorn/lanthornlaw25.PortsLoads", spec := "portsLoads", unfollowed := true, recurses := true, apart := false, narrowed := true }
def PortsLoadsUptoSaid : Prop := portsLoadsUptoRow.holds Try.pinned (OpenSpec.upto portsLoadsSpec)

end Rows
end Go.Proofs.Ytniagcbajjmopaa
