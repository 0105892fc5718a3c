/-
  No cell of these rows narrows 'for every input' (looked for: loops, veiled, ifaces, maps, wideKeys, modest, calm, conditions, laid).
  DERIVED. THE GIVEN ROWS OF THIS SEAT. 5 by the template 'for every input the law returns true; each argument reads behind the call as it read before'; 0 by the template 'total and deterministic' (their statements: YtfigepnpegnhkaaTotals.lean).
  GIVEN WITH THE SEED: the statements are not yours to turn. If you find one false, say at which input.
  Laid BY PROGRAM, IN A SANDBOX (cutbox-rows.mjs): the forced cells as the released guide's own fill.sh prints them over the translation 9bb37530571bbba9… (all of the seat's roots in one cut). By AI agents, Wed Nov 11 2026. No macro, syntax, notation, axiom, sorry.
-/
import Derived.Test.YtfigepnpegnhkaaChecked
import GoSem.Claim
import GoSem.ClaimJoined
import GoSem.ClaimMapViews
import Derived.JoinedTies
import Derived.KernelRfl
namespace Go.Proofs.Ytfigepnpegnhkaa
/- THE CELL 'sum', in the pinned program and in every row, IS THE sha256 OF THE DUMP (.gsa) THAT YtfigepnpegnhkaaProg.lean LOADS. Nothing in Lean hashes anything: it is a label: what it is worth is what the hold of that sum in a sandbox is worth. -/
noncomputable def Try.pinned : Pinned := { name := "ytfigepnpegnhkaa", sum := "9bb37530571bbba913bdcdc5d8204935bec64a125b081fd1f3fa6402a53c803f", checked := Try.checked }
namespace Rows
def none {H : Type} : Left H := { results := [], args := [] }

/-- 'lanthornlaw01.ClockRooms': WHATEVER THE INPUT: true; the input reads as it did. -/
def clockRoomsSpec : ChangeSpec := { name := "clockRooms", fn := fun _ => fun
  | [d1, d2, d3] => { results := [.lit (.bool true)], args := [d1, d2, d3] }
  | _ => none }
def clockRoomsRow : OpenClaim := { program := "ytfigepnpegnhkaa", sum := "9bb37530571bbba913bdcdc5d8204935bec64a125b081fd1f3fa6402a53c803f", func := "lanthorn/lanthornlaw01.ClockRooms", spec := "clockRooms", unfollowed := true, recurses := true, apart := false }
def ClockRoomsSaid : Prop := clockRoomsRow.holds Try.pinned (OpenSpec.ofChange clockRoomsSpec)

/-- ITS FALSE NEIGHBOUR: 'it returns false'. Refute it at one input. -/
def clockRoomsWrong : ChangeSpec := { name := "clockRooms", fn := fun _ => fun
  | [d1, d2, d3] => { results := [.lit (.bool false)], args := [d1, d2, d3] }
  | _ => none }
def ClockRoomsWrongFalsely : Prop := clockRoomsRow.holds Try.pinned (OpenSpec.ofChange clockRoomsWrong)

/-- 'lanthornlaw01.ClockBound': WHATEVER THE INPUT: true; the input reads as it did. -/
def clockBoundSpec : ChangeSpec := { name := "clockBound", fn := fun _ => fun
  | [d1, d2, d3] => { results := [.lit (.bool true)], args := [d1, d2, d3] }
  | _ => none }
def clockBoundRow : OpenClaim := { program := "ytfigepnpegnhkaa", sum := "9bb37530571bbba913bdcdc5d8204935bec64a125b081fd1f3fa6402a53c803f", func := "lanthorn/lanthornlaw01.ClockBound", spec := "clockBound", unfollowed := true, recurses := true, apart := false }
def ClockBoundSaid : Prop := clockBoundRow.holds Try.pinned (OpenSpec.ofChange clockBoundSpec)

/-- ITS FALSE NEIGHBOUR: 'it returns false'. Refute it at one input. -/
def clockBoundWrong : ChangeSpec := { name := "clockBound", fn := fun _ => fun
  | [d1, d2, d3] => { results := [.lit (.bool false)], args := [d1, d2, d3] }
  | _ => none }
def ClockBoundWrongFalsely : Prop := clockBoundRow.holds Try.pinned (OpenSpec.ofChange clockBoundWrong)

/-- 'lanthornlaw01.ClockNil': WHATEVER THE INPUT: true; the input reads as it did. -/
def clockNilSpec : ChangeSpec := { name := "clockNil", fn := fun _ => fun
  | [d1, d2] => { results := [.lit (.bool true)], args := [d1, d2] }
  | _ => none }
def clockNilRow : OpenClaim := { program := "ytfigepnpegnhkaa", sum := "9bb37530571bbba913bdcdc5d8204935bec64a125b081fd1f3fa6402a53c803f", func := "lanthorn/lanthornlaw01.ClockNil", spec := "clockNil", unfollowed := true, recurses := true, apart := false }
def ClockNilSaid : Prop := clockNilRow.holds Try.pinned (OpenSpec.ofChange clockNilSpec)

/-- ITS FALSE NEIGHBOUR: 'it returns false'. Refute it at one input. -/
def clockNilWrong : ChangeSpec := { name := "clockNil", fn := fun _ => fun
  | [d1, d2] => { results := [.lit (.bool false)], args := [d1, d2] }
  | _ => none }
def ClockNilWrongFalsely : Prop := clockNilRow.holds Try.pinned (OpenSpec.ofChange clockNilWrong)

/-- 'lanthornlaw01.ClockKeeps': WHATEVER THE INPUT: true; the input reads as it did. -/
def clockKeepsSpec : ChangeSpec := { name := "clockKeeps", fn := fun _ => fun
  | [d1, d2] => { results := [.lit (.bool true)], args := [d1, d2] }
  | _ => none }
def clockKeepsRow : OpenClaim := { program := "ytfigepnpegnhkaa", sum := "9bb37530571bbba913bdcdc5d8204935bec64a125b081fd1f3fa6402a53c803f", func := "lanthorn/lanthornlaw01.ClockKeeps", spec := "clockKeeps", unfollowed := true, recurses := true, apart := false }
def ClockKeepsSaid : Prop := clockKeepsRow.holds Try.pinned (OpenSpec.ofChange clockKeepsSpec)

/-- ITS FALSE NEIGHBOUR: 'it returns false'. Refute it at one input. -/
def clockKeepsWrong : ChangeSpec := { name := "clockKeeps", fn := fun _ => fun
  | [d1, d2] => { results := [.lit (.bool false)], args := [d1, d2] }
  | _ => none }
def ClockKeepsWrongFalsely : Prop := clockKeepsRow.holds Try.pinned (OpenSpec.ofChange clockKeepsWrong)

/-- 'lanthornlaw01.ClockRuns': WHATEVER THE INPUT: true; the input reads as it did. -/
def clockRunsSpec : ChangeSpec := { name := "clockRuns", fn := fun _ => fun
  | [d1, d2] => { results := [.lit (.bool true)], args := [d1, d2] }
  | _ => none }
def clockRunsRow : OpenClaim := { program := "ytfigepnpegnhkaa", sum := "9bb37530571bbba913bdcdc5d8204935bec64a125b081fd1f3fa6402a53c803f", func := "lanthorn/lanthornlaw01.ClockRuns", spec := "clockRuns", unfollowed := true, recurses := true, apart := false }
def ClockRunsSaid : Prop := clockRunsRow.holds Try.pinned (OpenSpec.ofChange clockRunsSpec)

/-- ITS FALSE NEIGHBOUR: 'it returns false'. Refute it at one input. -/
def clockRunsWrong : ChangeSpec := { name := "clockRuns", fn := fun _ => fun
  | [d1, d2] => { results := [.lit (.bool false)], args := [d1, d2] }
  | _ => none }
def ClockRunsWrongFalsely : Prop := clockRunsRow.holds Try.pinned (OpenSpec.ofChange clockRunsWrong)

/- THE SECOND FORM. 'bulk': how many values and letters a reading holds, each counted each time it is reached (what is shared counts as often as it is met; a slice's spare places count too). A statement '..UptoSaid' is the law's where the arguments, and the package variables that the reading takes, are together of bulk at most 1048576: NARROWER than '..Said'. Prove '..Said' where nothing that the law and all that it calls make is longer than what came in: it says more and counts as full. Else prove '..UptoSaid'. A law counts once. -/
mutual
def uptoBulk {H : Type} : DataW H → Nat
  | .lit (.string bytes) => bytes.length + 1
  | .lit _ => 1
  | .nil => 1
  | .ptr d => uptoBulk d + 1
  | .slice elems spare => uptoBulkAll elems + uptoBulkAll spare + 1
  | .agg parts => uptoBulkAll parts + 1
  | .iface _ d => uptoBulk d + 1
  | .map entries => uptoBulkEntries entries + 1
  | .held _ => 1
def uptoBulkAll {H : Type} : List (DataW H) → Nat
  | [] => 0
  | d :: r => uptoBulk d + uptoBulkAll r
def uptoBulkEntries {H : Type} : List (Lit × DataW H) → Nat
  | [] => 0
  | x :: r => uptoBulkEntry x + uptoBulkEntries r
def uptoBulkEntry {H : Type} : Lit × DataW H → Nat
  | (.string bytes, d) => bytes.length + uptoBulk d + 1
  | (_, d) => uptoBulk d + 1
 end
def uptoSmall : (H : Type) → List (DataW H) → Bool := fun _ ds => decide (uptoBulkAll ds ≤ 1048576)
def OpenSpec.upto (s : _root_.Go.ChangeSpec) : _root_.Go.OpenSpec := { _root_.Go.OpenSpec.ofChange s with cond := some uptoSmall }

/-- 'lanthornlaw01.ClockRooms', WHERE WHAT IT READS IS OF BULK AT MOST 1048576: true; the input reads as it did. -/
def clockRoomsUptoRow : OpenClaim := { program := "ytfigepnpegnhkaa", sum := "9bb37530571bbba913bdcdc5d8204935bec64a125b081fd1f3fa6402a53c803f", func := "lanthorn/lanthornlaw01.ClockRooms", spec := "clockRooms", unfollowed := true, recurses := true, apart := false, narrowed := true }
def ClockRoomsUptoSaid : Prop := clockRoomsUptoRow.holds Try.pinned (OpenSpec.upto clockRoomsSpec)

/-- 'lanthornlaw01.ClockBound', WHERE WHAT IT READS IS OF BULK AT MOST 1048576: true; the input reads as it did. -/
def clockBoundUptoRow : OpenClaim := { program := "ytfigepnpegnhkaa", sum := "9bb37530571bbba913bdcdc5d8204935bec64a125b081fd1f3fa6402a53c803f", func := "lanthorn/lanthornlaw01.ClockBound", spec := "clockBound", unfollowed := true, recurses := true, apart := false, narrowed := true }
def ClockBoundUptoSaid : Prop := clockBoundUptoRow.holds Try.pinned (OpenSpec.upto clockBoundSpec)

/-- 'lanthornlaw01.ClockNil', WHERE WHAT IT READS IS OF BULK AT MOST 1048576: true; the input reads as it did. -/
def clockNilUptoRow : OpenClaim := { program := "ytfigepnpegnhkaa", sum := "9bb37530571bbba913bdcdc5d8204935bec64a125b081fd1f3fa6402a53c803f", func := "lanthorn/lanthornlaw01.ClockNil", spec := "clockNil", unfollowed := true, recurses := true, apart := false, narrowed := true }
def ClockNilUptoSaid : Prop := clockNilUptoRow.holds Try.pinned (OpenSpec.upto clockNilSpec)

/-- 'lanthornlaw01.ClockKeeps', WHERE WHAT IT READS IS OF BULK AT MOST 1048576: true; the input reads as it did. -/
def clockKeepsUptoRow : OpenClaim := { program := "ytfigepnpegnhkaa", sum := "9bb37530571bbba913bdcdc5d8204935bec64a125b081fd1f3fa6402a53c803f", func := "lanthorn/lanthornlaw01.ClockKeeps", spec := "clockKeeps", unfollowed := true, recurses := true, apart := false, narrowed := true }
def ClockKeepsUptoSaid : Prop := clockKeepsUptoRow.holds Try.pinned (OpenSpec.upto clockKeepsSpec)

/-- 'lanthornlaw01.ClockRuns', WHERE WHAT IT READS IS OF BULK AT MOST 1048576: true; the input reads as it did. -/
def clockRunsUptoRow : OpenClaim := { program := "ytfigepnpegnhkaa", sum := "9bb37530571bbba913bdcdc5d8204935bec64a125b081fd1f3fa6402a53c803f", func := "lanthorn/lanthornlaw01.ClockRuns", spec := "clockRuns", unfollowed := true, recurses := true, apart := false, narrowed := true }
def ClockRunsUptoSaid : Prop := clockRunsUptoRow.holds Try.pinned (OpenSpec.upto clockRunsSpec)

end Rows
end Go.Proofs.Ytfigepnpegnhkaa
