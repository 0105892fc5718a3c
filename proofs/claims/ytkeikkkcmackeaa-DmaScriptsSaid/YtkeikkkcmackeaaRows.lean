/-
  No cell of these rows narrows 'for every input' (looked for: loops, veiled, ifaces, maps, wideKeys, modest, calm, conditions, laid).
  DERIVED. THE GIVEN ROWS OF THIS SEAT. 5 by the template 'for every input the law returns true; each argument reads behind the call as it read before'; 0 by the template 'total and deterministic' (their statements: YtkeikkkcmackeaaTotals.lean).
  GIVEN WITH THE SEED: the statements are not yours to turn. If you find one false, say at which input.
  Laid BY PROGRAM, IN A SANDBOX (cutbox-rows.mjs): the forced cells as the released guide's own fill.sh prints them over the translation cbfd6870f672b92a… (all of the seat's roots in one cut). By AI agents, Wed Nov 11 2026. No macro, syntax, notation, axiom, sorry.
-/
import Derived.Test.YtkeikkkcmackeaaChecked
import GoSem.Claim
import GoSem.ClaimJoined
import GoSem.ClaimMapViews
import Derived.JoinedTies
import Derived.KernelRfl
namespace Go.Proofs.Ytkeikkkcmackeaa
/- THE CELL 'sum', in the pinned program and in every row, IS THE sha256 OF THE DUMP (.gsa) THAT YtkeikkkcmackeaaProg.lean LOADS. Nothing in Lean hashes anything: it is a label: what it is worth is what the hold of that sum in a sandbox is worth. -/
noncomputable def Try.pinned : Pinned := { name := "ytkeikkkcmackeaa", sum := "cbfd6870f672b92a8de63b15123912bfeff5c5c09492e84588d80c8c7c5203a7", checked := Try.checked }
namespace Rows
def none {H : Type} : Left H := { results := [], args := [] }

/-- 'lanthornlaw26.DmaMoves': WHATEVER THE INPUT: true; the input reads as it did. -/
def dmaMovesSpec : ChangeSpec := { name := "dmaMoves", fn := fun _ => fun
  | [d1, d2, d3, d4, d5, d6] => { results := [.lit (.bool true)], args := [d1, d2, d3, d4, d5, d6] }
  | _ => none }
def dmaMovesRow : OpenClaim := { program := "ytkeikkkcmackeaa", sum := "cbfd6870f672b92a8de63b15123912bfeff5c5c09492e84588d80c8c7c5203a7", func := "lanthorn/lanthornlaw26.DmaMoves", spec := "dmaMoves", unfollowed := true, recurses := true, apart := false }
def DmaMovesSaid : Prop := dmaMovesRow.holds Try.pinned (OpenSpec.ofChange dmaMovesSpec)

/-- ITS FALSE NEIGHBOUR: 'it returns false'. Refute it at one input. -/
def dmaMovesWrong : ChangeSpec := { name := "dmaMoves", fn := fun _ => fun
  | [d1, d2, d3, d4, d5, d6] => { results := [.lit (.bool false)], args := [d1, d2, d3, d4, d5, d6] }
  | _ => none }
def DmaMovesWrongFalsely : Prop := dmaMovesRow.holds Try.pinned (OpenSpec.ofChange dmaMovesWrong)

/-- 'lanthornlaw26.DmaTables': WHATEVER THE INPUT: true; the input reads as it did. -/
def dmaTablesSpec : ChangeSpec := { name := "dmaTables", fn := fun _ => fun
  | [d1, d2, d3, d4] => { results := [.lit (.bool true)], args := [d1, d2, d3, d4] }
  | _ => none }
def dmaTablesRow : OpenClaim := { program := "ytkeikkkcmackeaa", sum := "cbfd6870f672b92a8de63b15123912bfeff5c5c09492e84588d80c8c7c5203a7", func := "lanthorn/lanthornlaw26.DmaTables", spec := "dmaTables", unfollowed := true, recurses := true, apart := false }
def DmaTablesSaid : Prop := dmaTablesRow.holds Try.pinned (OpenSpec.ofChange dmaTablesSpec)

/-- ITS FALSE NEIGHBOUR: 'it returns false'. Refute it at one input. -/
def dmaTablesWrong : ChangeSpec := { name := "dmaTables", fn := fun _ => fun
  | [d1, d2, d3, d4] => { results := [.lit (.bool false)], args := [d1, d2, d3, d4] }
  | _ => none }
def DmaTablesWrongFalsely : Prop := dmaTablesRow.holds Try.pinned (OpenSpec.ofChange dmaTablesWrong)

/-- 'lanthornlaw26.DmaAhead': WHATEVER THE INPUT: true; the input reads as it did. -/
def dmaAheadSpec : ChangeSpec := { name := "dmaAhead", fn := fun _ => fun
  | [d1, d2] => { results := [.lit (.bool true)], args := [d1, d2] }
  | _ => none }
def dmaAheadRow : OpenClaim := { program := "ytkeikkkcmackeaa", sum := "cbfd6870f672b92a8de63b15123912bfeff5c5c09492e84588d80c8c7c5203a7", func := "lanthorn/lanthornlaw26.DmaAhead", spec := "dmaAhead", unfollowed := true, recurses := true, apart := false }
def DmaAheadSaid : Prop := dmaAheadRow.holds Try.pinned (OpenSpec.ofChange dmaAheadSpec)

/-- ITS FALSE NEIGHBOUR: 'it returns false'. Refute it at one input. -/
def dmaAheadWrong : ChangeSpec := { name := "dmaAhead", fn := fun _ => fun
  | [d1, d2] => { results := [.lit (.bool false)], args := [d1, d2] }
  | _ => none }
def DmaAheadWrongFalsely : Prop := dmaAheadRow.holds Try.pinned (OpenSpec.ofChange dmaAheadWrong)

/-- 'lanthornlaw26.DmaScripts': WHATEVER THE INPUT: true; the input reads as it did. -/
def dmaScriptsSpec : ChangeSpec := { name := "dmaScripts", fn := fun _ => fun
  | [d1, d2] => { results := [.lit (.bool true)], args := [d1, d2] }
  | _ => none }
def dmaScriptsRow : OpenClaim := { program := "ytkeikkkcmackeaa", sum := "cbfd6870f672b92a8de63b15123912bfeff5c5c09492e84588d80c8c7c5203a7", func := "lanthorn/lanthornlaw26.DmaScripts", spec := "dmaScripts", unfollowed := true, recurses := true, apart := false }
def DmaScriptsSaid : Prop := dmaScriptsRow.holds Try.pinned (OpenSpec.ofChange dmaScriptsSpec)

/-- ITS FALSE NEIGHBOUR: 'it returns false'. Refute it at one input. -/
def dmaScriptsWrong : ChangeSpec := { name := "dmaScripts", fn := fun _ => fun
  | [d1, d2] => { results := [.lit (.bool false)], args := [d1, d2] }
  | _ => none }
def DmaScriptsWrongFalsely : Prop := dmaScriptsRow.holds Try.pinned (OpenSpec.ofChange dmaScriptsWrong)

/-- 'lanthornlaw26.DmaLoads': WHATEVER THE INPUT: true; the input reads as it did. -/
def dmaLoadsSpec : ChangeSpec := { name := "dmaLoads", fn := fun _ => fun
  | [d] => { results := [.lit (.bool true)], args := [d] }
  | _ => none }
def dmaLoadsRow : OpenClaim := { program := "ytkeikkkcmackeaa", sum := "cbfd6870f672b92a8de63b15123912bfeff5c5c09492e84588d80c8c7c5203a7", func := "lanthorn/lanthornlaw26.DmaLoads", spec := "dmaLoads", unfollowed := true, recurses := true, apart := false }
def DmaLoadsSaid : Prop := dmaLoadsRow.holds Try.pinned (OpenSpec.ofChange dmaLoadsSpec)

/-- ITS FALSE NEIGHBOUR: 'it returns false'. Refute it at one input. -/
def dmaLoadsWrong : ChangeSpec := { name := "dmaLoads", fn := fun _ => fun
  | [d] => { results := [.lit (.bool false)], args := [d] }
  | _ => none }
def DmaLoadsWrongFalsely : Prop := dmaLoadsRow.holds Try.pinned (OpenSpec.ofChange dmaLoadsWrong)

/- THE SECOND FORM. 'bulk': how many values and letters a reading holds, each counted each time it is reached (what is shared counts as often as it is met; a slice's spare places count too). A statement '..UptoSaid' is the law's where the arguments, and the package variables that the reading takes, are together of bulk at most 1048576: NARROWER than '..Said'. Prove '..Said' where nothing that the law and all that it calls make is longer than what came in: it says more and counts as full. Else prove '..UptoSaid'. A law counts once. -/
mutual
def uptoBulk {H : Type} : DataW H → Nat
  | .lit (.string bytes) => bytes.length + 1
  | .lit _ => 1
  | .nil => 1
  | .ptr d => uptoBulk d + 1
  | .slice elems spare => uptoBulkAll elems + uptoBulkAll spare + 1
  | .agg parts => uptoBulkAll parts + 1
  | .iface _ d => uptoBulk d + 1
  | .map entries => uptoBulkEntries entries + 1
  | .held _ => 1
def uptoBulkAll {H : Type} : List (DataW H) → Nat
  | [] => 0
  | d :: r => uptoBulk d + uptoBulkAll r
def uptoBulkEntries {H : Type} : List (Lit × DataW H) → Nat
  | [] => 0
  | x :: r => uptoBulkEntry x + uptoBulkEntries r
def uptoBulkEntry {H : Type} : Lit × DataW H → Nat
  | (.string bytes, d) => bytes.length + uptoBulk d + 1
  | (_, d) => uptoBulk d + 1
 end
def uptoSmall : (H : Type) → List (DataW H) → Bool := fun _ ds => decide (uptoBulkAll ds ≤ 1048576)
def OpenSpec.upto (s : _root_.Go.ChangeSpec) : _root_.Go.OpenSpec := { _root_.Go.OpenSpec.ofChange s with cond := some uptoSmall }

/-- 'lanthornlaw26.DmaMoves', WHERE WHAT IT READS IS OF BULK AT MOST 1048576: true; the input reads as it did. -/
def dmaMovesUptoRow : OpenClaim := { program := "ytkeikkkcmackeaa", sum := "cbfd6870f672b92a8de63b15123912bfeff5c5c09492e84588d80c8c7c5203a7", func := "lanthorn/lanthornlaw26.DmaMoves", spec := "dmaMoves", unfollowed := true, recurses := true, apart := false, narrowed := true }
def DmaMovesUptoSaid : Prop := dmaMovesUptoRow.holds Try.pinned (OpenSpec.upto dmaMovesSpec)

/-- 'lanthornlaw26.DmaTables', WHERE WHAT IT READS IS OF BULK AT MOST 1048576: true; the input reads as it did. -/
def dmaTablesUptoRow : OpenClaim := { program := "ytkeikkkcmackeaa", sum := "cbfd6870f672b92a8de63b15123912bfeff5c5c09492e84588d80c8c7c5203a7", func := "lanthorn/lanthornlaw26.DmaTables", spec := "dmaTables", unfollowed := true, recurses := true, apart := false, narrowed := true }
def DmaTablesUptoSaid : Prop := dmaTablesUptoRow.holds Try.pinned (OpenSpec.upto dmaTablesSpec)

/-- 'lanthornlaw26.DmaAhead', WHERE WHAT IT READS IS OF BULK AT MOST 1048576: true; the input reads as it did. -/
def dmaAheadUptoRow : OpenClaim := { program := "ytkeikkkcmackeaa", sum := "cbfd6870f672b92a8de63b15123912bfeff5c5c09492e84588d80c8c7c5203a7", func := "lanthorn/lanthornlaw26.DmaAhead", spec := "dmaAhead", unfollowed := true, recurses := true, apart := false, narrowed := true }
def DmaAheadUptoSaid : Prop := dmaAheadUptoRow.holds Try.pinned (OpenSpec.upto dmaAheadSpec)

/-- 'lanthornlaw26.DmaScripts', WHERE WHAT IT READS IS OF BULK AT MOST 1048576: true; the input reads as it did. -/
def dmaScriptsUptoRow : OpenClaim := { program := "ytkeikkkcmackeaa", sum := "cbfd6870f672b92a8de63b15123912bfeff5c5c09492e84588d80c8c7c5203a7", func := "lanthorn/lanthornlaw26.DmaScripts", spec := "dmaScripts", unfollowed := true, recurses := true, apart := false, narrowed := true }
def DmaScriptsUptoSaid : Prop := dmaScriptsUptoRow.holds Try.pinned (OpenSpec.upto dmaScriptsSpec)

/-- 'lanthornlaw26.DmaLoads', WHERE WHAT IT READS IS OF BULK AT MOST 1048576: true; the input reads as it did. -/
def dmaLoadsUptoRow : OpenClaim := { program := "ytkeikkkcmackeaa", sum := "cbfd6870f672b92a8de63b15123912bfeff5c5c09492e84588d80c8c7c5203a7", func := "lanthorn/lanthornlaw26.DmaLoads", spec := "dmaLoads", unfollowed := true, recurses := true, apart := false, narrowed := true }
def DmaLoadsUptoSaid : Prop := dmaLoadsUptoRow.holds Try.pinned (OpenSpec.upto dmaLoadsSpec)

end Rows
end Go.Proofs.Ytkeikkkcmackeaa
