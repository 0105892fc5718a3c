/-
  No cell of these rows narrows 'for every input' (looked for: loops, veiled, ifaces, maps, wideKeys, modest, calm, conditions, laid).
  DERIVED. THE GIVEN ROWS OF THIS SEAT. 8 by the template 'for every input the law returns true; each argument reads behind the call as it read before'; 0 by the template 'total and deterministic' (their statements: YtbfpacngphjkcaaTotals.lean).
  GIVEN WITH THE SEED: the statements are not yours to turn. If you find one false, say at which input.
  Laid BY PROGRAM, IN A SANDBOX (cutbox-rows.mjs): the forced cells as the released guide's own fill.sh prints them over the translation 84b1f21b4b18ded1… (all of the seat's roots in one cut). By AI agents, Wed Nov 11 2026. No macro, syntax, notation, axiom, sorry.
-/
import Derived.Test.YtbfpacngphjkcaaChecked
import GoSem.Claim
import GoSem.ClaimJoined
import GoSem.ClaimMapViews
import Derived.JoinedTies
import Derived.KernelRfl
namespace Go.Proofs.Ytbfpacngphjkcaa
/- THE CELL 'sum', in the pinned program and in every row, IS THE sha256 OF THE DUMP (.gsa) THAT YtbfpacngphjkcaaProg.lean LOADS. Nothing in Lean hashes anything: it is a label: what it is worth is what the hold of that sum in a sandbox is worth. -/
noncomputable def Try.pinned : Pinned := { name := "ytbfpacngphjkcaa", sum := "84b1f21b4b18ded1fa45d31779e50bdbfeda3575807aa1b0061e7da8f89df8ff", checked := Try.checked }
namespace Rows
def none {H : Type} : Left H := { results := [], args := [] }

/-- 'lanthornlaw04.BoardRams': WHATEVER THE INPUT: true; the input reads as it did. -/
def boardRamsSpec : ChangeSpec := { name := "boardRams", fn := fun _ => fun
  | [d1, d2] => { results := [.lit (.bool true)], args := [d1, d2] }
  | _ => none }
def boardRamsRow : OpenClaim := { program := "ytbfpacngphjkcaa", sum := "84b1f21b4b18ded1fa45d31779e50bdbfeda3575807aa1b0061e7da8f89df8ff", func := "lanthorn/lanthornlaw04.BoardRams", spec := "boardRams", apart := false }
def BoardRamsSaid : Prop := boardRamsRow.holds Try.pinned (OpenSpec.ofChange boardRamsSpec)

/-- ITS FALSE NEIGHBOUR: 'it returns false'. Refute it at one input. -/
def boardRamsWrong : ChangeSpec := { name := "boardRams", fn := fun _ => fun
  | [d1, d2] => { results := [.lit (.bool false)], args := [d1, d2] }
  | _ => none }
def BoardRamsWrongFalsely : Prop := boardRamsRow.holds Try.pinned (OpenSpec.ofChange boardRamsWrong)

/-- 'lanthornlaw04.BoardNil': WHATEVER THE INPUT: true; the input reads as it did. -/
def boardNilSpec : ChangeSpec := { name := "boardNil", fn := fun _ => fun
  | [d1, d2] => { results := [.lit (.bool true)], args := [d1, d2] }
  | _ => none }
def boardNilRow : OpenClaim := { program := "ytbfpacngphjkcaa", sum := "84b1f21b4b18ded1fa45d31779e50bdbfeda3575807aa1b0061e7da8f89df8ff", func := "lanthorn/lanthornlaw04.BoardNil", spec := "boardNil", unfollowed := true, recurses := true, apart := false }
def BoardNilSaid : Prop := boardNilRow.holds Try.pinned (OpenSpec.ofChange boardNilSpec)

/-- ITS FALSE NEIGHBOUR: 'it returns false'. Refute it at one input. -/
def boardNilWrong : ChangeSpec := { name := "boardNil", fn := fun _ => fun
  | [d1, d2] => { results := [.lit (.bool false)], args := [d1, d2] }
  | _ => none }
def BoardNilWrongFalsely : Prop := boardNilRow.holds Try.pinned (OpenSpec.ofChange boardNilWrong)

/-- 'lanthornlaw04.BoardDecodes': WHATEVER THE INPUT: true; the input reads as it did. -/
def boardDecodesSpec : ChangeSpec := { name := "boardDecodes", fn := fun _ => fun
  | [d1, d2, d3] => { results := [.lit (.bool true)], args := [d1, d2, d3] }
  | _ => none }
def boardDecodesRow : OpenClaim := { program := "ytbfpacngphjkcaa", sum := "84b1f21b4b18ded1fa45d31779e50bdbfeda3575807aa1b0061e7da8f89df8ff", func := "lanthorn/lanthornlaw04.BoardDecodes", spec := "boardDecodes", unfollowed := true, recurses := true, apart := false }
def BoardDecodesSaid : Prop := boardDecodesRow.holds Try.pinned (OpenSpec.ofChange boardDecodesSpec)

/-- ITS FALSE NEIGHBOUR: 'it returns false'. Refute it at one input. -/
def boardDecodesWrong : ChangeSpec := { name := "boardDecodes", fn := fun _ => fun
  | [d1, d2, d3] => { results := [.lit (.bool false)], args := [d1, d2, d3] }
  | _ => none }
def BoardDecodesWrongFalsely : Prop := boardDecodesRow.holds Try.pinned (OpenSpec.ofChange boardDecodesWrong)

/-- 'lanthornlaw04.BoardKeeps': WHATEVER THE INPUT: true; the input reads as it did. -/
def boardKeepsSpec : ChangeSpec := { name := "boardKeeps", fn := fun _ => fun
  | [d1, d2, d3] => { results := [.lit (.bool true)], args := [d1, d2, d3] }
  | _ => none }
def boardKeepsRow : OpenClaim := { program := "ytbfpacngphjkcaa", sum := "84b1f21b4b18ded1fa45d31779e50bdbfeda3575807aa1b0061e7da8f89df8ff", func := "lanthorn/lanthornlaw04.BoardKeeps", spec := "boardKeeps", unfollowed := true, recurses := true, apart := false }
def BoardKeepsSaid : Prop := boardKeepsRow.holds Try.pinned (OpenSpec.ofChange boardKeepsSpec)

/-- ITS FALSE NEIGHBOUR: 'it returns false'. Refute it at one input. -/
def boardKeepsWrong : ChangeSpec := { name := "boardKeeps", fn := fun _ => fun
  | [d1, d2, d3] => { results := [.lit (.bool false)], args := [d1, d2, d3] }
  | _ => none }
def BoardKeepsWrongFalsely : Prop := boardKeepsRow.holds Try.pinned (OpenSpec.ofChange boardKeepsWrong)

/-- 'lanthornlaw04.BoardTurned': WHATEVER THE INPUT: true; the input reads as it did. -/
def boardTurnedSpec : ChangeSpec := { name := "boardTurned", fn := fun _ => fun
  | [d1, d2] => { results := [.lit (.bool true)], args := [d1, d2] }
  | _ => none }
def boardTurnedRow : OpenClaim := { program := "ytbfpacngphjkcaa", sum := "84b1f21b4b18ded1fa45d31779e50bdbfeda3575807aa1b0061e7da8f89df8ff", func := "lanthorn/lanthornlaw04.BoardTurned", spec := "boardTurned", unfollowed := true, recurses := true, apart := false }
def BoardTurnedSaid : Prop := boardTurnedRow.holds Try.pinned (OpenSpec.ofChange boardTurnedSpec)

/-- ITS FALSE NEIGHBOUR: 'it returns false'. Refute it at one input. -/
def boardTurnedWrong : ChangeSpec := { name := "boardTurned", fn := fun _ => fun
  | [d1, d2] => { results := [.lit (.bool false)], args := [d1, d2] }
  | _ => none }
def BoardTurnedWrongFalsely : Prop := boardTurnedRow.holds Try.pinned (OpenSpec.ofChange boardTurnedWrong)

/-- 'lanthornlaw04.BoardWhole': WHATEVER THE INPUT: true; the input reads as it did. -/
def boardWholeSpec : ChangeSpec := { name := "boardWhole", fn := fun _ => fun
  | [d1, d2] => { results := [.lit (.bool true)], args := [d1, d2] }
  | _ => none }
def boardWholeRow : OpenClaim := { program := "ytbfpacngphjkcaa", sum := "84b1f21b4b18ded1fa45d31779e50bdbfeda3575807aa1b0061e7da8f89df8ff", func := "lanthorn/lanthornlaw04.BoardWhole", spec := "boardWhole", unfollowed := true, recurses := true, apart := false }
def BoardWholeSaid : Prop := boardWholeRow.holds Try.pinned (OpenSpec.ofChange boardWholeSpec)

/-- ITS FALSE NEIGHBOUR: 'it returns false'. Refute it at one input. -/
def boardWholeWrong : ChangeSpec := { name := "boardWhole", fn := fun _ => fun
  | [d1, d2] => { results := [.lit (.bool false)], args := [d1, d2] }
  | _ => none }
def BoardWholeWrongFalsely : Prop := boardWholeRow.holds Try.pinned (OpenSpec.ofChange boardWholeWrong)

/-- 'lanthornlaw04.BoardWheres': WHATEVER THE INPUT: true; the input reads as it did. -/
def boardWheresSpec : ChangeSpec := { name := "boardWheres", fn := fun _ => fun
  | [d1, d2, d3] => { results := [.lit (.bool true)], args := [d1, d2, d3] }
  | _ => none }
def boardWheresRow : OpenClaim := { program := "ytbfpacngphjkcaa", sum := "84b1f21b4b18ded1fa45d31779e50bdbfeda3575807aa1b0061e7da8f89df8ff", func := "lanthorn/lanthornlaw04.BoardWheres", spec := "boardWheres", unfollowed := true, recurses := true, apart := false }
def BoardWheresSaid : Prop := boardWheresRow.holds Try.pinned (OpenSpec.ofChange boardWheresSpec)

/-- ITS FALSE NEIGHBOUR: 'it returns false'. Refute it at one input. -/
def boardWheresWrong : ChangeSpec := { name := "boardWheres", fn := fun _ => fun
  | [d1, d2, d3] => { results := [.lit (.bool false)], args := [d1, d2, d3] }
  | _ => none }
def BoardWheresWrongFalsely : Prop := boardWheresRow.holds Try.pinned (OpenSpec.ofChange boardWheresWrong)

/-- 'lanthornlaw04.BoardRuns': WHATEVER THE INPUT: true; the input reads as it did. -/
def boardRunsSpec : ChangeSpec := { name := "boardRuns", fn := fun _ => fun
  | [d1, d2] => { results := [.lit (.bool true)], args := [d1, d2] }
  | _ => none }
def boardRunsRow : OpenClaim := { program := "ytbfpacngphjkcaa", sum := "84b1f21b4b18ded1fa45d31779e50bdbfeda3575807aa1b0061e7da8f89df8ff", func := "lanthorn/lanthornlaw04.BoardRuns", spec := "boardRuns", unfollowed := true, recurses := true, apart := false }
def BoardRunsSaid : Prop := boardRunsRow.holds Try.pinned (OpenSpec.ofChange boardRunsSpec)

/-- ITS FALSE NEIGHBOUR: 'it returns false'. Refute it at one input. -/
def boardRunsWrong : ChangeSpec := { name := "boardRuns", fn := fun _ => fun
  | [d1, d2] => { results := [.lit (.bool false)], args := [d1, d2] }
  | _ => none }
def BoardRunsWrongFalsely : Prop := boardRunsRow.holds Try.pinned (OpenSpec.ofChange boardRunsWrong)

/- THE SECOND FORM. 'bulk': how many values and letters a reading holds, each counted each time it is reached (what is shared counts as often as it is met; a slice's spare places count too). A statement '..UptoSaid' is the law's where the arguments, and the package variables that the reading takes, are together of bulk at most 1048576: NARROWER than '..Said'. Prove '..Said' where nothing that the law and all that it calls make is longer than what came in: it says more and counts as full. Else prove '..UptoSaid'. A law counts once. -/
mutual
def uptoBulk {H : Type} : DataW H → Nat
  | .lit (.string bytes) => bytes.length + 1
  | .lit _ => 1
  | .nil => 1
  | .ptr d => uptoBulk d + 1
  | .slice elems spare => uptoBulkAll elems + uptoBulkAll spare + 1
  | .agg parts => uptoBulkAll parts + 1
  | .iface _ d => uptoBulk d + 1
  | .map entries => uptoBulkEntries entries + 1
  | .held _ => 1
def uptoBulkAll {H : Type} : List (DataW H) → Nat
  | [] => 0
  | d :: r => uptoBulk d + uptoBulkAll r
def uptoBulkEntries {H : Type} : List (Lit × DataW H) → Nat
  | [] => 0
  | x :: r => uptoBulkEntry x + uptoBulkEntries r
def uptoBulkEntry {H : Type} : Lit × DataW H → Nat
  | (.string bytes, d) => bytes.length + uptoBulk d + 1
  | (_, d) => uptoBulk d + 1
 end
def uptoSmall : (H : Type) → List (DataW H) → Bool := fun _ ds => decide (uptoBulkAll ds ≤ 1048576)
def OpenSpec.upto (s : _root_.Go.ChangeSpec) : _root_.Go.OpenSpec := { _root_.Go.OpenSpec.ofChange s with cond := some uptoSmall }

/-- 'lanthornlaw04.BoardRams', WHERE WHAT IT READS IS OF BULK AT MOST 1048576: true; the input reads as it did. -/
def boardRamsUptoRow : OpenClaim := { program := "ytbfpacngphjkcaa", sum := "84b1f21b4b18ded1fa45d31779e50bdbfeda3575807aa1b0061e7da8f89df8ff", func := "lanthorn/lanthornlaw04.BoardRams", spec := "boardRams", apart := false, narrowed := true }
def BoardRamsUptoSaid : Prop := boardRamsUptoRow.holds Try.pinned (OpenSpec.upto boardRamsSpec)

/-- 'lanthornlaw04.BoardNil', WHERE WHAT IT READS IS OF BULK AT MOST 1048576: true; the input reads as it did. -/
def boardNilUptoRow : OpenClaim := { program := "ytbfpacngphjkcaa", sum := "84b1f21b4b18ded1fa45d31779e50bdbfeda3575807aa1b0061e7da8f89df8ff", func := "lanthorn/lanthornlaw04.BoardNil", spec := "boardNil", unfollowed := true, recurses := true, apart := false, narrowed := true }
def BoardNilUptoSaid : Prop := boardNilUptoRow.holds Try.pinned (OpenSpec.upto boardNilSpec)

/-- 'lanthornlaw04.BoardDecodes', WHERE WHAT IT READS IS OF BULK AT MOST 1048576: true; the input reads as it did. -/
def boardDecodesUptoRow : OpenClaim := { program := "ytbfpacngphjkcaa", sum := "84b1f21b4b18ded1fa45d31779e50bdbfeda3575807aa1b0061e7da8f89df8ff", func := "lanthorn/lanthornlaw04.BoardDecodes", spec := "boardDecodes", unfollowed := true, recurses := true, apart := false, narrowed := true }
def BoardDecodesUptoSaid : Prop := boardDecodesUptoRow.holds Try.pinned (OpenSpec.upto boardDecodesSpec)

/-- 'lanthornlaw04.BoardKeeps', WHERE WHAT IT READS IS OF BULK AT MOST 1048576: true; the input reads as it did. -/
def boardKeepsUptoRow : OpenClaim := { program := "ytbfpacngphjkcaa", sum := "84b1f21b4b18ded1fa45d31779e50bdbfeda3575807aa1b0061e7da8f89df8ff", func := "lanthorn/lanthornlaw04.BoardKeeps", spec := "boardKeeps", unfollowed := true, recurses := true, apart := false, narrowed := true }
def BoardKeepsUptoSaid : Prop := boardKeepsUptoRow.holds Try.pinned (OpenSpec.upto boardKeepsSpec)

/-- 'lanthornlaw04.BoardTurned', WHERE WHAT IT READS IS OF BULK AT MOST 1048576: true; the input reads as it did. -/
def boardTurnedUptoRow : OpenClaim := { program := "ytbfpacngphjkcaa", sum := "84b1f21b4b18ded1fa45d31779e50bdbfeda3575807aa1b0061e7da8f89df8ff", func := "lanthorn/lanthornlaw04.BoardTurned", spec := "boardTurned", unfollowed := true, recurses := true, apart := false, narrowed := true }
def BoardTurnedUptoSaid : Prop := boardTurnedUptoRow.holds Try.pinned (OpenSpec.upto boardTurnedSpec)

/-- 'lanthornlaw04.BoardWhole', WHERE WHAT IT READS IS OF BULK AT MOST 1048576: true; the input reads as it did. -/
def boardWholeUptoRow : OpenClaim := { program := "ytbfpacngphjkcaa", sum := "84b1f21b4b18ded1fa45d31779e50bdbfeda3575807aa1b0061e7da8f89df8ff", func := "lanthorn/lanthornlaw04.BoardWhole", spec := "boardWhole", unfollowed := true, recurses := true, apart := false, narrowed := true }
def BoardWholeUptoSaid : Prop := boardWholeUptoRow.holds Try.pinned (OpenSpec.upto boardWholeSpec)

/-- 'lanthornlaw04.BoardWheres', WHERE WHAT IT READS IS OF BULK AT MOST 1048576: true; the input reads as it did. -/
def boardWheresUptoRow : OpenClaim := { program := "ytbfpacngphjkcaa", sum := "84b1f21b4b18ded1fa45d31779e50bdbfeda3575807aa1b0061e7da8f89df8ff", func := "lanthorn/lanthornlaw04.BoardWheres", spec := "boardWheres", unfollowed := true, recurses := true, apart := false, narrowed := true }
def BoardWheresUptoSaid : Prop := boardWheresUptoRow.holds Try.pinned (OpenSpec.upto boardWheresSpec)

/-- 'lanthornlaw04.BoardRuns', WHERE WHAT IT READS IS OF BULK AT MOST 1048576: true; the input reads as it did. -/
def boardRunsUptoRow : OpenClaim := { program := "ytbfpacngphjkcaa", sum := "84b1f21b4b18ded1fa45d31779e50bdbfeda3575807aa1b0061e7da8f89df8ff", func := "lanthorn/lanthornlaw04.BoardRuns", spec := "boardRuns", unfollowed := true, recurses := true, apart := false, narrowed := true }
def BoardRunsUptoSaid : Prop := boardRunsUptoRow.holds Try.pinned (OpenSpec.upto boardRunsSpec)

end Rows
end Go.Proofs.Ytbfpacngphjkcaa
