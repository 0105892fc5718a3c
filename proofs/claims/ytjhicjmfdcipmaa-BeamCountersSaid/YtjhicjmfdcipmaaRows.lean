/-
  No cell of these rows narrows 'for every input' (looked for: loops, veiled, ifaces, maps, wideKeys, modest, calm, conditions, laid).
  DERIVED. THE GIVEN ROWS OF THIS SEAT. 7 by the template 'for every input the law returns true; each argument reads behind the call as it read before'; 0 by the template 'total and deterministic' (their statements: YtjhicjmfdcipmaaTotals.lean).
  GIVEN WITH THE SEED: the statements are not yours to turn. If you find one false, say at which input.
  Laid BY PROGRAM, IN A SANDBOX (cutbox-rows.mjs): the forced cells as the released guide's own fill.sh prints them over the translation 5b007a4881676f07… (all of the seat's roots in one cut). By AI agents, Wed Nov 11 2026. No macro, syntax, notation, axiom, sorry.
-/
import Derived.Test.YtjhicjmfdcipmaaChecked
import GoSem.Claim
import GoSem.ClaimJoined
import GoSem.ClaimMapViews
import Derived.JoinedTies
import Derived.KernelRfl
namespace Go.Proofs.Ytjhicjmfdcipmaa
/- THE CELL 'sum', in the pinned program and in every row, IS THE sha256 OF THE DUMP (.gsa) THAT YtjhicjmfdcipmaaProg.lean LOADS. Nothing in Lean hashes anything: it is a label: what it is worth is what the hold of that sum in a sandbox is worth. -/
noncomputable def Try.pinned : Pinned := { name := "ytjhicjmfdcipmaa", sum := "5b007a4881676f07d5183f2467caf218ebc4aef61e14c079c7479d7c6c28fa0c", checked := Try.checked }
namespace Rows
def none {H : Type} : Left H := { results := [], args := [] }

/-- 'lanthornlaw19.BeamTimes': WHATEVER THE INPUT: true; the input reads as it did. -/
def beamTimesSpec : ChangeSpec := { name := "beamTimes", fn := fun _ => fun
  | [d] => { results := [.lit (.bool true)], args := [d] }
  | _ => none }
def beamTimesRow : OpenClaim := { program := "ytjhicjmfdcipmaa", sum := "5b007a4881676f07d5183f2467caf218ebc4aef61e14c079c7479d7c6c28fa0c", func := "lanthorn/lanthornlaw19.BeamTimes", spec := "beamTimes", apart := false }
def BeamTimesSaid : Prop := beamTimesRow.holds Try.pinned (OpenSpec.ofChange beamTimesSpec)

/-- ITS FALSE NEIGHBOUR: 'it returns false'. Refute it at one input. -/
def beamTimesWrong : ChangeSpec := { name := "beamTimes", fn := fun _ => fun
  | [d] => { results := [.lit (.bool false)], args := [d] }
  | _ => none }
def BeamTimesWrongFalsely : Prop := beamTimesRow.holds Try.pinned (OpenSpec.ofChange beamTimesWrong)

/-- 'lanthornlaw19.BeamWhole': WHATEVER THE INPUT: true; the input reads as it did. -/
def beamWholeSpec : ChangeSpec := { name := "beamWhole", fn := fun _ => fun
  | [d] => { results := [.lit (.bool true)], args := [d] }
  | _ => none }
def beamWholeRow : OpenClaim := { program := "ytjhicjmfdcipmaa", sum := "5b007a4881676f07d5183f2467caf218ebc4aef61e14c079c7479d7c6c28fa0c", func := "lanthorn/lanthornlaw19.BeamWhole", spec := "beamWhole", apart := false }
def BeamWholeSaid : Prop := beamWholeRow.holds Try.pinned (OpenSpec.ofChange beamWholeSpec)

/-- ITS FALSE NEIGHBOUR: 'it returns false'. Refute it at one input. -/
def beamWholeWrong : ChangeSpec := { name := "beamWhole", fn := fun _ => fun
  | [d] => { results := [.lit (.bool false)], args := [d] }
  | _ => none }
def BeamWholeWrongFalsely : Prop := beamWholeRow.holds Try.pinned (OpenSpec.ofChange beamWholeWrong)

/-- 'lanthornlaw19.BeamOf': WHATEVER THE INPUT: true; the input reads as it did. -/
def beamOfSpec : ChangeSpec := { name := "beamOf", fn := fun _ => fun
  | [d] => { results := [.lit (.bool true)], args := [d] }
  | _ => none }
def beamOfRow : OpenClaim := { program := "ytjhicjmfdcipmaa", sum := "5b007a4881676f07d5183f2467caf218ebc4aef61e14c079c7479d7c6c28fa0c", func := "lanthorn/lanthornlaw19.BeamOf", spec := "beamOf", apart := false }
def BeamOfSaid : Prop := beamOfRow.holds Try.pinned (OpenSpec.ofChange beamOfSpec)

/-- ITS FALSE NEIGHBOUR: 'it returns false'. Refute it at one input. -/
def beamOfWrong : ChangeSpec := { name := "beamOf", fn := fun _ => fun
  | [d] => { results := [.lit (.bool false)], args := [d] }
  | _ => none }
def BeamOfWrongFalsely : Prop := beamOfRow.holds Try.pinned (OpenSpec.ofChange beamOfWrong)

/-- 'lanthornlaw19.BeamUntil': WHATEVER THE INPUT: true; the input reads as it did. -/
def beamUntilSpec : ChangeSpec := { name := "beamUntil", fn := fun _ => fun
  | [d1, d2, d3] => { results := [.lit (.bool true)], args := [d1, d2, d3] }
  | _ => none }
def beamUntilRow : OpenClaim := { program := "ytjhicjmfdcipmaa", sum := "5b007a4881676f07d5183f2467caf218ebc4aef61e14c079c7479d7c6c28fa0c", func := "lanthorn/lanthornlaw19.BeamUntil", spec := "beamUntil", apart := false }
def BeamUntilSaid : Prop := beamUntilRow.holds Try.pinned (OpenSpec.ofChange beamUntilSpec)

/-- ITS FALSE NEIGHBOUR: 'it returns false'. Refute it at one input. -/
def beamUntilWrong : ChangeSpec := { name := "beamUntil", fn := fun _ => fun
  | [d1, d2, d3] => { results := [.lit (.bool false)], args := [d1, d2, d3] }
  | _ => none }
def BeamUntilWrongFalsely : Prop := beamUntilRow.holds Try.pinned (OpenSpec.ofChange beamUntilWrong)

/-- 'lanthornlaw19.BeamBetween': WHATEVER THE INPUT: true; the input reads as it did. -/
def beamBetweenSpec : ChangeSpec := { name := "beamBetween", fn := fun _ => fun
  | [d1, d2, d3, d4] => { results := [.lit (.bool true)], args := [d1, d2, d3, d4] }
  | _ => none }
def beamBetweenRow : OpenClaim := { program := "ytjhicjmfdcipmaa", sum := "5b007a4881676f07d5183f2467caf218ebc4aef61e14c079c7479d7c6c28fa0c", func := "lanthorn/lanthornlaw19.BeamBetween", spec := "beamBetween", apart := false }
def BeamBetweenSaid : Prop := beamBetweenRow.holds Try.pinned (OpenSpec.ofChange beamBetweenSpec)

/-- ITS FALSE NEIGHBOUR: 'it returns false'. Refute it at one input. -/
def beamBetweenWrong : ChangeSpec := { name := "beamBetween", fn := fun _ => fun
  | [d1, d2, d3, d4] => { results := [.lit (.bool false)], args := [d1, d2, d3, d4] }
  | _ => none }
def BeamBetweenWrongFalsely : Prop := beamBetweenRow.holds Try.pinned (OpenSpec.ofChange beamBetweenWrong)

/-- 'lanthornlaw19.BeamLoads': WHATEVER THE INPUT: true; the input reads as it did. -/
def beamLoadsSpec : ChangeSpec := { name := "beamLoads", fn := fun _ => fun
  | [d] => { results := [.lit (.bool true)], args := [d] }
  | _ => none }
def beamLoadsRow : OpenClaim := { program := "ytjhicjmfdcipmaa", sum := "5b007a4881676f07d5183f2467caf218ebc4aef61e14c079c7479d7c6c28fa0c", func := "lanthorn/lanthornlaw19.BeamLoads", spec := "beamLoads", unfollowed := true, recurses := true, apart := false }
def BeamLoadsSaid : Prop := beamLoadsRow.holds Try.pinned (OpenSpec.ofChange beamLoadsSpec)

/-- ITS FALSE NEIGHBOUR: 'it returns false'. Refute it at one input. -/
def beamLoadsWrong : ChangeSpec := { name := "beamLoads", fn := fun _ => fun
  | [d] => { results := [.lit (.bool false)], args := [d] }
  | _ => none }
def BeamLoadsWrongFalsely : Prop := beamLoadsRow.holds Try.pinned (OpenSpec.ofChange beamLoadsWrong)

/-- 'lanthornlaw19.BeamCounters': WHATEVER THE INPUT: true; the input reads as it did. -/
def beamCountersSpec : ChangeSpec := { name := "beamCounters", fn := fun _ => fun
  | [d] => { results := [.lit (.bool true)], args := [d] }
  | _ => none }
def beamCountersRow : OpenClaim := { program := "ytjhicjmfdcipmaa", sum := "5b007a4881676f07d5183f2467caf218ebc4aef61e14c079c7479d7c6c28fa0c", func := "lanthorn/lanthornlaw19.BeamCounters", spec := "beamCounters", unfollowed := true, recurses := true, apart := false }
def BeamCountersSaid : Prop := beamCountersRow.holds Try.pinned (OpenSpec.ofChange beamCountersSpec)

/-- ITS FALSE NEIGHBOUR: 'it returns false'. Refute it at one input. -/
def beamCountersWrong : ChangeSpec := { name := "beamCounters", fn := fun _ => fun
  | [d] => { results := [.lit (.bool false)], args := [d] }
  | _ => none }
def BeamCountersWrongFalsely : Prop := beamCountersRow.holds Try.pinned (OpenSpec.ofChange beamCountersWrong)

/- THE SECOND FORM. 'bulk': how many values and letters a reading holds, each counted each time it is reached (what is shared counts as often as it is met; a slice's spare places count too). A statement '..UptoSaid' is the law's where the arguments, and the package variables that the reading takes, are together of bulk at most 1048576: NARROWER than '..Said'. Prove '..Said' where nothing that the law and all that it calls make is longer than what came in: it says more and counts as full. Else prove '..UptoSaid'. A law counts once. -/
mutual
def uptoBulk {H : Type} : DataW H → Nat
  | .lit (.string bytes) => bytes.length + 1
  | .lit _ => 1
  | .nil => 1
  | .ptr d => uptoBulk d + 1
  | .slice elems spare => uptoBulkAll elems + uptoBulkAll spare + 1
  | .agg parts => uptoBulkAll parts + 1
  | .iface _ d => uptoBulk d + 1
  | .map entries => uptoBulkEntries entries + 1
  | .held _ => 1
def uptoBulkAll {H : Type} : List (DataW H) → Nat
  | [] => 0
  | d :: r => uptoBulk d + uptoBulkAll r
def uptoBulkEntries {H : Type} : List (Lit × DataW H) → Nat
  | [] => 0
  | x :: r => uptoBulkEntry x + uptoBulkEntries r
def uptoBulkEntry {H : Type} : Lit × DataW H → Nat
  | (.string bytes, d) => bytes.length + uptoBulk d + 1
  | (_, d) => uptoBulk d + 1
 end
def uptoSmall : (H : Type) → List (DataW H) → Bool := fun _ ds => decide (uptoBulkAll ds ≤ 1048576)
def OpenSpec.upto (s : _root_.Go.ChangeSpec) : _root_.Go.OpenSpec := { _root_.Go.OpenSpec.ofChange s with cond := some uptoSmall }

/-- 'lanthornlaw19.BeamTimes', WHERE WHAT IT READS IS OF BULK AT MOST 1048576: true; the input reads as it did. -/
def beamTimesUptoRow : OpenClaim := { program := "ytjhicjmfdcipmaa", sum := "5b007a4881676f07d5183f2467caf218ebc4aef61e14c079c7479d7c6c28fa0c", func := "lanthorn/lanthornlaw19.BeamTimes", spec := "beamTimes", apart := false, narrowed := true }
def BeamTimesUptoSaid : Prop := beamTimesUptoRow.holds Try.pinned (OpenSpec.upto beamTimesSpec)

/-- 'lanthornlaw19.BeamWhole', WHERE WHAT IT READS IS OF BULK AT MOST 1048576: true; the input reads as it did. -/
def beamWholeUptoRow : OpenClaim := { program := "ytjhicjmfdcipmaa", sum := "5b007a4881676f07d5183f2467caf218ebc4aef61e14c079c7479d7c6c28fa0c", func := "lanthorn/lanthornlaw19.BeamWhole", spec := "beamWhole", apart := false, narrowed := true }
def BeamWholeUptoSaid : Prop := beamWholeUptoRow.holds Try.pinned (OpenSpec.upto beamWholeSpec)

/-- 'lanthornlaw19.BeamOf', WHERE WHAT IT READS IS OF BULK AT MOST 1048576: true; the input reads as it did. -/
def beamOfUptoRow : OpenClaim := { program := "ytjhicjmfdcipmaa", sum := "5b007a4881676f07d5183f2467caf218ebc4aef61e14c079c7479d7c6c28fa0c", func := "lanthorn/lanthornlaw19.BeamOf", spec := "beamOf", apart := false, narrowed := true }
def BeamOfUptoSaid : Prop := beamOfUptoRow.holds Try.pinned (OpenSpec.upto beamOfSpec)

/-- 'lanthornlaw19.BeamUntil', WHERE WHAT IT READS IS OF BULK AT MOST 1048576: true; the input reads as it did. -/
def beamUntilUptoRow : OpenClaim := { program := "ytjhicjmfdcipmaa", sum := "5b007a4881676f07d5183f2467caf218ebc4aef61e14c079c7479d7c6c28fa0c", func := "lanthorn/lanthornlaw19.BeamUntil", spec := "beamUntil", apart := false, narrowed := true }
def BeamUntilUptoSaid : Prop := beamUntilUptoRow.holds Try.pinned (OpenSpec.upto beamUntilSpec)

/-- 'lanthornlaw19.BeamBetween', WHERE WHAT IT READS IS OF BULK AT MOST 1048576: true; the input reads as it did. -/
def beamBetweenUptoRow : OpenClaim := { program := "ytjhicjmfdcipmaa", sum := "5b007a4881676f07d5183f2467caf218ebc4aef61e14c079c7479d7c6c28fa0c", func := "lanthorn/lanthornlaw19.BeamBetween", spec := "beamBetween", apart := false, narrowed := true }
def BeamBetweenUptoSaid : Prop := beamBetweenUptoRow.holds Try.pinned (OpenSpec.upto beamBetweenSpec)

/-- 'lanthornlaw19.BeamLoads', WHERE WHAT IT READS IS OF BULK AT MOST 1048576: true; the input reads as it did. -/
def beamLoadsUptoRow : OpenClaim := { program := "ytjhicjmfdcipmaa", sum := "5b007a4881676f07d5183f2467caf218ebc4aef61e14c079c7479d7c6c28fa0c", func := "lanthorn/lanthornlaw19.BeamLoads", spec := "beamLoads", unfollowed := true, recurses := true, apart := false, narrowed := true }
def BeamLoadsUptoSaid : Prop := beamLoadsUptoRow.holds Try.pinned (OpenSpec.upto beamLoadsSpec)

/-- 'lanthornlaw19.BeamCounters', WHERE WHAT IT READS IS OF BULK AT MOST 1048576: true; the input reads as it did. -/
def beamCountersUptoRow : OpenClaim := { program := "ytjhicjmfdcipmaa", sum := "5b007a4881676f07d5183f2467caf218ebc4aef61e14c079c7479d7c6c28fa0c", func := "lanthorn/lanthornlaw19.BeamCounters", spec := "beamCounters", unfollowed := true, recurses := true, apart := false, narrowed := true }
def BeamCountersUptoSaid : Prop := beamCountersUptoRow.holds Try.pinned (OpenSpec.upto beamCountersSpec)

end Rows
end Go.Proofs.Ytjhicjmfdcipmaa
