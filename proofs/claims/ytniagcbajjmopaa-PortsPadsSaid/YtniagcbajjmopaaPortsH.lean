/- What writes do. -/
import Derived.Test.YtniagcbajjmopaaPortsG
namespace Go.Proofs.Ytniagcbajjmopaa
open Go.RowKit
set_option linter.unusedVariables false
set_option linter.unusedSimpArgs false
set_option maxRecDepth 100000
section
variable {w : World} {g : Nat} {s : Pt}
set_option maxHeartbeats 2000000 in
theorem write_hold1 (A : Po w g s)  :
    Calls Try.prog 9 #[poP g, .int .u16 16406, .int .u8 1] w (PW w g { s with soon := 0, held := true, shift0 := s.say0, shift1 := s.say1 } (.bool true)) := by
  have CL := Lib.hid (fun (w' : World) (b : Nat) (a : Po w' g { s with soon := 0 }) (cb : w'.cell? ⟨b, 0, none⟩ = some (poP g)) => hold_one (s := { s with soon := 0 }) a)
  obtain ⟨W1, hW⟩ : ∃ W1, W1 = w.alloc (.cells #[poP g] 23) := ⟨_, rfl⟩
  obtain ⟨B, hB⟩ : ∃ B, B = w.heap.size := ⟨_, rfl⟩
  have a1 : Po W1 g s := by rw [hW]; exact A.alloc _
  have cb : W1.cell? ⟨B, 0, none⟩ = some (poP g) := by rw [hW, hB]; exact (Blk.new _ _ _).cell 0
  have c22 : W1.cell? ⟨g, 22, none⟩ = some (.int .i64 s.soon) := a1.cell 22
  have f22 := a1.frozen 22
  have hlt := A.lt
  have gB : B ≠ g := by omega
  have hb : Below w.heap.size w W1 := by rw [hW]; exact belowA (Below.refl _ _) _
  have a2 : Po (W1.setCell ⟨g, 22, none⟩ (.int .i64 0)) g { s with soon := 0 } := a1.set_ 22 _
  have cb2 : (W1.setCell ⟨g, 22, none⟩ (.int .i64 0)).cell? ⟨B, 0, none⟩ = some (poP g) := keepSet cb gB
  have A2 := Lib.hid a2
  have CB2 := Lib.hid cb2
  have U2 := Lib.hid ((Upd.ofBelow hb g).set 22 (.int .i64 0))
  have HW := Lib.hid hW
  have HB := Lib.hid hB
  clear a1 a2 hb A hW hB
  go_enter Try.func9, Try.ntmps9
  go_upto_region 4 with (fail)
  rw [← HW.out, ← HB.out]
  go_wp2_with fail
  refine (CL.out _ B A2.out CB2.out).mono ?_
  rintro e w3 ⟨rfl, a3, u3⟩
  have A3 := Lib.hid a3
  have U3 := Lib.hid (U2.out.trans u3)
  clear a3 u3
  go_wp2_with fail
  go_ret
  exact ⟨rfl, A3.out, U3.out⟩
set_option maxHeartbeats 2000000 in
theorem write_hold0 (A : Po w g s)  :
    Calls Try.prog 9 #[poP g, .int .u16 16406, .int .u8 0] w (PW w g { s with soon := 0, held := false } (.bool true)) := by
  have CL := Lib.hid (fun (w' : World) (b : Nat) (a : Po w' g { s with soon := 0 }) (cb : w'.cell? ⟨b, 0, none⟩ = some (poP g)) => hold_zero (s := { s with soon := 0 }) a)
  obtain ⟨W1, hW⟩ : ∃ W1, W1 = w.alloc (.cells #[poP g] 23) := ⟨_, rfl⟩
  obtain ⟨B, hB⟩ : ∃ B, B = w.heap.size := ⟨_, rfl⟩
  have a1 : Po W1 g s := by rw [hW]; exact A.alloc _
  have cb : W1.cell? ⟨B, 0, none⟩ = some (poP g) := by rw [hW, hB]; exact (Blk.new _ _ _).cell 0
  have c22 : W1.cell? ⟨g, 22, none⟩ = some (.int .i64 s.soon) := a1.cell 22
  have f22 := a1.frozen 22
  have hlt := A.lt
  have gB : B ≠ g := by omega
  have hb : Below w.heap.size w W1 := by rw [hW]; exact belowA (Below.refl _ _) _
  have a2 : Po (W1.setCell ⟨g, 22, none⟩ (.int .i64 0)) g { s with soon := 0 } := a1.set_ 22 _
  have cb2 : (W1.setCell ⟨g, 22, none⟩ (.int .i64 0)).cell? ⟨B, 0, none⟩ = some (poP g) := keepSet cb gB
  have A2 := Lib.hid a2
  have CB2 := Lib.hid cb2
  have U2 := Lib.hid ((Upd.ofBelow hb g).set 22 (.int .i64 0))
  have HW := Lib.hid hW
  have HB := Lib.hid hB
  clear a1 a2 hb A hW hB
  go_enter Try.func9, Try.ntmps9
  go_upto_region 4 with (fail)
  rw [← HW.out, ← HB.out]
  go_wp2_with fail
  refine (CL.out _ B A2.out CB2.out).mono ?_
  rintro e w3 ⟨rfl, a3, u3⟩
  have A3 := Lib.hid a3
  have U3 := Lib.hid (U2.out.trans u3)
  clear a3 u3
  go_wp2_with fail
  go_ret
  exact ⟨rfl, A3.out, U3.out⟩
end
end Go.Proofs.Ytniagcbajjmopaa
