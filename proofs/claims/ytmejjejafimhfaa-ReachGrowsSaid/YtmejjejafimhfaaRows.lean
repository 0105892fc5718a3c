/-
  No cell of these rows narrows 'for every input' (looked for: loops, veiled, ifaces, maps, wideKeys, modest, calm, conditions, laid).
  DERIVED. THE GIVEN ROWS OF THIS SEAT. 2 by the template 'for every input the law returns true; each argument reads behind the call as it read before'; 0 by the template 'total and deterministic' (their statements: YtmejjejafimhfaaTotals.lean).
  GIVEN WITH THE SEED: the statements are not yours to turn. If you find one false, say at which input.
  Laid BY PROGRAM, IN A SANDBOX (cutbox-rows.mjs): the forced cells as the released guide's own fill.sh prints them over the translation 27388097e1206bd8… (all of the seat's roots in one cut). By AI agents, Wed Nov 11 2026. No macro, syntax, notation, axiom, sorry.
-/
import Derived.Test.YtmejjejafimhfaaChecked
import GoSem.Claim
import GoSem.ClaimJoined
import GoSem.ClaimMapViews
import Derived.JoinedTies
import Derived.KernelRfl
namespace Go.Proofs.Ytmejjejafimhfaa
/- THE CELL 'sum', in the pinned program and in every row, IS THE sha256 OF THE DUMP (.gsa) THAT YtmejjejafimhfaaProg.lean LOADS. Nothing in Lean hashes anything: it is a label: what it is worth is what the hold of that sum in a sandbox is worth. -/
noncomputable def Try.pinned : Pinned := { name := "ytmejjejafimhfaa", sum := "27388097e1206bd8432bb221d41cd0c4edc943b5a87059b6986c50b824646b65", checked := Try.checked }
namespace Rows
def none {H : Type} : Left H := { results := [], args := [] }

/-- 'lanthornlaw07.ReachGrows': WHATEVER THE INPUT: true; the input reads as it did. -/
def reachGrowsSpec : ChangeSpec := { name := "reachGrows", fn := fun _ => fun
  | [d1, d2, d3] => { results := [.lit (.bool true)], args := [d1, d2, d3] }
  | _ => none }
def reachGrowsRow : OpenClaim := { program := "ytmejjejafimhfaa", sum := "27388097e1206bd8432bb221d41cd0c4edc943b5a87059b6986c50b824646b65", func := "lanthorn/lanthornlaw07.ReachGrows", spec := "reachGrows", apart := false }
def ReachGrowsSaid : Prop := reachGrowsRow.holds Try.pinned (OpenSpec.ofChange reachGrowsSpec)

/-- ITS FALSE NEIGHBOUR: 'it returns false'. Refute it at one input. -/
def reachGrowsWrong : ChangeSpec := { name := "reachGrows", fn := fun _ => fun
  | [d1, d2, d3] => { results := [.lit (.bool false)], args := [d1, d2, d3] }
  | _ => none }
def ReachGrowsWrongFalsely : Prop := reachGrowsRow.holds Try.pinned (OpenSpec.ofChange reachGrowsWrong)

/-- 'lanthornlaw07.ReachSettles': WHATEVER THE INPUT: true; the input reads as it did. -/
def reachSettlesSpec : ChangeSpec := { name := "reachSettles", fn := fun _ => fun
  | [d1, d2, d3] => { results := [.lit (.bool true)], args := [d1, d2, d3] }
  | _ => none }
def reachSettlesRow : OpenClaim := { program := "ytmejjejafimhfaa", sum := "27388097e1206bd8432bb221d41cd0c4edc943b5a87059b6986c50b824646b65", func := "lanthorn/lanthornlaw07.ReachSettles", spec := "reachSettles", apart := false }
def ReachSettlesSaid : Prop := reachSettlesRow.holds Try.pinned (OpenSpec.ofChange reachSettlesSpec)

/-- ITS FALSE NEIGHBOUR: 'it returns false'. Refute it at one input. -/
def reachSettlesWrong : ChangeSpec := { name := "reachSettles", fn := fun _ => fun
  | [d1, d2, d3] => { results := [.lit (.bool false)], args := [d1, d2, d3] }
  | _ => none }
def ReachSettlesWrongFalsely : Prop := reachSettlesRow.holds Try.pinned (OpenSpec.ofChange reachSettlesWrong)

/- THE SECOND FORM. 'bulk': how many values and letters a reading holds, each counted each time it is reached (what is shared counts as often as it is met; a slice's spare places count too). A statement '..UptoSaid' is the law's where the arguments, and the package variables that the reading takes, are together of bulk at most 1048576: NARROWER than '..Said'. Prove '..Said' where nothing that the law and all that it calls make is longer than what came in: it says more and counts as full. Else prove '..UptoSaid'. A law counts once. -/
mutual
def uptoBulk {H : Type} : DataW H → Nat
  | .lit (.string bytes) => bytes.length + 1
  | .lit _ => 1
  | .nil => 1
  | .ptr d => uptoBulk d + 1
  | .slice elems spare => uptoBulkAll elems + uptoBulkAll spare + 1
  | .agg parts => uptoBulkAll parts + 1
  | .iface _ d => uptoBulk d + 1
  | .map entries => uptoBulkEntries entries + 1
  | .held _ => 1
def uptoBulkAll {H : Type} : List (DataW H) → Nat
  | [] => 0
  | d :: r => uptoBulk d + uptoBulkAll r
def uptoBulkEntries {H : Type} : List (Lit × DataW H) → Nat
  | [] => 0
  | x :: r => uptoBulkEntry x + uptoBulkEntries r
def uptoBulkEntry {H : Type} : Lit × DataW H → Nat
  | (.string bytes, d) => bytes.length + uptoBulk d + 1
  | (_, d) => uptoBulk d + 1
 end
def uptoSmall : (H : Type) → List (DataW H) → Bool := fun _ ds => decide (uptoBulkAll ds ≤ 1048576)
def OpenSpec.upto (s : _root_.Go.ChangeSpec) : _root_.Go.OpenSpec := { _root_.Go.OpenSpec.ofChange s with cond := some uptoSmall }

/-- 'lanthornlaw07.ReachGrows', WHERE WHAT IT READS IS OF BULK AT MOST 1048576: true; the input reads as it did. -/
def reachGrowsUptoRow : OpenClaim := { program := "ytmejjejafimhfaa", sum := "27388097e1206bd8432bb221d41cd0c4edc943b5a87059b6986c50b824646b65", func := "lanthorn/lanthornlaw07.ReachGrows", spec := "reachGrows", apart := false, narrowed := true }
def ReachGrowsUptoSaid : Prop := reachGrowsUptoRow.holds Try.pinned (OpenSpec.upto reachGrowsSpec)

/-- 'lanthornlaw07.ReachSettles', WHERE WHAT IT READS IS OF BULK AT MOST 1048576: true; the input reads as it did. -/
def reachSettlesUptoRow : OpenClaim := { program := "ytmejjejafimhfaa", sum := "27388097e1206bd8432bb221d41cd0c4edc943b5a87059b6986c50b824646b65", func := "lanthorn/lanthornlaw07.ReachSettles", spec := "reachSettles", apart := false, narrowed := true }
def ReachSettlesUptoSaid : Prop := reachSettlesUptoRow.holds Try.pinned (OpenSpec.upto reachSettlesSpec)

end Rows
end Go.Proofs.Ytmejjejafimhfaa
