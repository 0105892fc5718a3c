/- What writes do. -/
import Derived.Test.YtniagcbajjmopaaGreatPortsA
namespace Go.Proofs.YtniagcbajjmopaaGreat
open Go.RowKit
set_option linter.unusedVariables false
set_option linter.unusedSimpArgs false
set_option maxRecDepth 100000
section
variable {w : World} {g : Nat} {s : Pt}
set_option maxHeartbeats 400000 in
theorem write_factor (A : Po w g s) (v : Int) :
    Calls Tryz.prog 5 #[poP g, .int .u16 16898, .int .u8 v] w (PW w g { s with soon := 0, factor := v } (.bool true)) := by
  have CL := Lib.hid (fun (w' : World) (b : Nat) (a : Po w' g { s with soon := 0 }) (cb : w'.cell? ⟨b, 0, none⟩ = some (poP g)) => factors_any (s := { s with soon := 0 }) a v)
  obtain ⟨W1, hW⟩ : ∃ W1, W1 = w.alloc (.cells #[poP g] 23) := ⟨_, rfl⟩
  obtain ⟨B, hB⟩ : ∃ B, B = w.heap.size := ⟨_, rfl⟩
  have a1 : Po W1 g s := by rw [hW]; exact A.alloc _
  have cb : W1.cell? ⟨B, 0, none⟩ = some (poP g) := by rw [hW, hB]; exact (Blk.new _ _ _).cell 0
  have c22 : W1.cell? ⟨g, 22, none⟩ = some (.int .i64 s.soon) := a1.cell 22
  have f22 := a1.frozen 22
  have hlt := A.lt
  have gB : B ≠ g := by omega
  have hb : Below w.heap.size w W1 := by rw [hW]; exact belowA (Below.refl _ _) _
  have a2 : Po (W1.setCell ⟨g, 22, none⟩ (.int .i64 0)) g { s with soon := 0 } := a1.set_ 22 _
  have cb2 : (W1.setCell ⟨g, 22, none⟩ (.int .i64 0)).cell? ⟨B, 0, none⟩ = some (poP g) := keepSet cb gB
  have A2 := Lib.hid a2
  have CB2 := Lib.hid cb2
  have U2 := Lib.hid ((Upd.ofBelow hb g).set 22 (.int .i64 0))
  have HW := Lib.hid hW
  have HB := Lib.hid hB
  clear a1 a2 hb A hW hB
  go_enter Tryz.func5, Tryz.ntmps5
  go_upto_region 4 with (fail)
  rw [← HW.out, ← HB.out]
  go_wp2_with fail
  refine (CL.out _ B A2.out CB2.out).mono ?_
  rintro e w3 ⟨rfl, a3, u3⟩
  have A3 := Lib.hid a3
  have U3 := Lib.hid (U2.out.trans u3)
  clear a3 u3
  go_wp2_with fail
  go_ret
  exact ⟨rfl, A3.out, U3.out⟩
set_option maxHeartbeats 400000 in
theorem write_multiply (A : Po w g s) (v : Int) (f0 : 0 ≤ s.factor) (f1 : s.factor ≤ 255) (v0 : 0 ≤ v) (v1 : v ≤ 255) :
    Calls Tryz.prog 5 #[poP g, .int .u16 16899, .int .u8 v] w (PW w g { s with soon := 0, product := s.factor * v, quotient := v } (.bool true)) := by
  have CL := Lib.hid (fun (w' : World) (b : Nat) (a : Po w' g { s with soon := 0 }) (cb : w'.cell? ⟨b, 0, none⟩ = some (poP g)) => multiply_any (s := { s with soon := 0 }) a v f0 f1 v0 v1)
  obtain ⟨W1, hW⟩ : ∃ W1, W1 = w.alloc (.cells #[poP g] 23) := ⟨_, rfl⟩
  obtain ⟨B, hB⟩ : ∃ B, B = w.heap.size := ⟨_, rfl⟩
  have a1 : Po W1 g s := by rw [hW]; exact A.alloc _
  have cb : W1.cell? ⟨B, 0, none⟩ = some (poP g) := by rw [hW, hB]; exact (Blk.new _ _ _).cell 0
  have c22 : W1.cell? ⟨g, 22, none⟩ = some (.int .i64 s.soon) := a1.cell 22
  have f22 := a1.frozen 22
  have hlt := A.lt
  have gB : B ≠ g := by omega
  have hb : Below w.heap.size w W1 := by rw [hW]; exact belowA (Below.refl _ _) _
  have a2 : Po (W1.setCell ⟨g, 22, none⟩ (.int .i64 0)) g { s with soon := 0 } := a1.set_ 22 _
  have cb2 : (W1.setCell ⟨g, 22, none⟩ (.int .i64 0)).cell? ⟨B, 0, none⟩ = some (poP g) := keepSet cb gB
  have A2 := Lib.hid a2
  have CB2 := Lib.hid cb2
  have U2 := Lib.hid ((Upd.ofBelow hb g).set 22 (.int .i64 0))
  have HW := Lib.hid hW
  have HB := Lib.hid hB
  clear a1 a2 hb A hW hB
  go_enter Tryz.func5, Tryz.ntmps5
  go_upto_region 4 with (fail)
  rw [← HW.out, ← HB.out]
  go_wp2_with fail
  refine (CL.out _ B A2.out CB2.out).mono ?_
  rintro e w3 ⟨rfl, a3, u3⟩
  have A3 := Lib.hid a3
  have U3 := Lib.hid (U2.out.trans u3)
  clear a3 u3
  go_wp2_with fail
  go_ret
  exact ⟨rfl, A3.out, U3.out⟩
set_option maxHeartbeats 400000 in
theorem write_low (A : Po w g s) (v : Int) (h : s.dividend = 0) (v0 : 0 ≤ v) (v1 : v ≤ 255) :
    Calls Tryz.prog 5 #[poP g, .int .u16 16900, .int .u8 v] w (PW w g { s with soon := 0, dividend := v } (.bool true)) := by
  have CL := Lib.hid (fun (w' : World) (b : Nat) (a : Po w' g { s with soon := 0 }) (cb : w'.cell? ⟨b, 0, none⟩ = some (poP g)) => low_c (s := { s with soon := 0 }) a b v h v0 v1 cb)
  obtain ⟨W1, hW⟩ : ∃ W1, W1 = w.alloc (.cells #[poP g] 23) := ⟨_, rfl⟩
  obtain ⟨B, hB⟩ : ∃ B, B = w.heap.size := ⟨_, rfl⟩
  have a1 : Po W1 g s := by rw [hW]; exact A.alloc _
  have cb : W1.cell? ⟨B, 0, none⟩ = some (poP g) := by rw [hW, hB]; exact (Blk.new _ _ _).cell 0
  have c22 : W1.cell? ⟨g, 22, none⟩ = some (.int .i64 s.soon) := a1.cell 22
  have f22 := a1.frozen 22
  have hlt := A.lt
  have gB : B ≠ g := by omega
  have hb : Below w.heap.size w W1 := by rw [hW]; exact belowA (Below.refl _ _) _
  have a2 : Po (W1.setCell ⟨g, 22, none⟩ (.int .i64 0)) g { s with soon := 0 } := a1.set_ 22 _
  have cb2 : (W1.setCell ⟨g, 22, none⟩ (.int .i64 0)).cell? ⟨B, 0, none⟩ = some (poP g) := keepSet cb gB
  have A2 := Lib.hid a2
  have CB2 := Lib.hid cb2
  have U2 := Lib.hid ((Upd.ofBelow hb g).set 22 (.int .i64 0))
  have HW := Lib.hid hW
  have HB := Lib.hid hB
  clear a1 a2 hb A hW hB
  go_enter Tryz.func5, Tryz.ntmps5
  go_upto_region 4 with (fail)
  rw [← HW.out, ← HB.out]
  go_wp2_with fail
  refine (CL.out _ B A2.out CB2.out).mono ?_
  rintro e w3 ⟨rfl, a3, u3⟩
  have A3 := Lib.hid a3
  have U3 := Lib.hid (U2.out.trans u3)
  clear a3 u3
  go_wp2_with fail
  go_ret
  exact ⟨rfl, A3.out, U3.out⟩
set_option maxHeartbeats 400000 in
theorem write_high (A : Po w g s) (v : Int) (f0 : 0 ≤ s.dividend) (f1 : s.dividend ≤ 255) (v0 : 0 ≤ v) (v1 : v ≤ 255) :
    Calls Tryz.prog 5 #[poP g, .int .u16 16901, .int .u8 v] w (PW w g { s with soon := 0, dividend := s.dividend + v * 256 } (.bool true)) := by
  have CL := Lib.hid (fun (w' : World) (b : Nat) (a : Po w' g { s with soon := 0 }) (cb : w'.cell? ⟨b, 0, none⟩ = some (poP g)) => high_c (s := { s with soon := 0 }) a b v f0 f1 v0 v1 cb)
  obtain ⟨W1, hW⟩ : ∃ W1, W1 = w.alloc (.cells #[poP g] 23) := ⟨_, rfl⟩
  obtain ⟨B, hB⟩ : ∃ B, B = w.heap.size := ⟨_, rfl⟩
  have a1 : Po W1 g s := by rw [hW]; exact A.alloc _
  have cb : W1.cell? ⟨B, 0, none⟩ = some (poP g) := by rw [hW, hB]; exact (Blk.new _ _ _).cell 0
  have c22 : W1.cell? ⟨g, 22, none⟩ = some (.int .i64 s.soon) := a1.cell 22
  have f22 := a1.frozen 22
  have hlt := A.lt
  have gB : B ≠ g := by omega
  have hb : Below w.heap.size w W1 := by rw [hW]; exact belowA (Below.refl _ _) _
  have a2 : Po (W1.setCell ⟨g, 22, none⟩ (.int .i64 0)) g { s with soon := 0 } := a1.set_ 22 _
  have cb2 : (W1.setCell ⟨g, 22, none⟩ (.int .i64 0)).cell? ⟨B, 0, none⟩ = some (poP g) := keepSet cb gB
  have A2 := Lib.hid a2
  have CB2 := Lib.hid cb2
  have U2 := Lib.hid ((Upd.ofBelow hb g).set 22 (.int .i64 0))
  have HW := Lib.hid hW
  have HB := Lib.hid hB
  clear a1 a2 hb A hW hB
  go_enter Tryz.func5, Tryz.ntmps5
  go_upto_region 4 with (fail)
  rw [← HW.out, ← HB.out]
  go_wp2_with fail
  refine (CL.out _ B A2.out CB2.out).mono ?_
  rintro e w3 ⟨rfl, a3, u3⟩
  have A3 := Lib.hid a3
  have U3 := Lib.hid (U2.out.trans u3)
  clear a3 u3
  go_wp2_with fail
  go_ret
  exact ⟨rfl, A3.out, U3.out⟩
set_option maxHeartbeats 400000 in
theorem write_divide (A : Po w g s) (v : Int) (n : Int) (hn : s.dividend = n) (f0 : 0 ≤ n) (f1 : n ≤ 65535) (v0 : 0 ≤ v) (v1 : v ≤ 255) :
    Calls Tryz.prog 5 #[poP g, .int .u16 16902, .int .u8 v] w (PW w g { s with soon := 0, dividend := n, quotient := if v = 0 then 65535 else n / v, product := if v = 0 then n else n % v } (.bool true)) := by
  have CL := Lib.hid (fun (w' : World) (b : Nat) (a : Po w' g { s with soon := 0 }) (cb : w'.cell? ⟨b, 0, none⟩ = some (poP g)) => divide_any (s := { s with soon := 0 }) a v n hn f0 f1 v0 v1)
  obtain ⟨q, hq⟩ : ∃ q, (if v = 0 then 65535 else n / v) = q := ⟨_, rfl⟩
  obtain ⟨p, hp⟩ : ∃ p, (if v = 0 then n else n % v) = p := ⟨_, rfl⟩
  rw [hq, hp] at CL ⊢
  clear hq hp hn f0 f1 v0 v1
  obtain ⟨W1, hW⟩ : ∃ W1, W1 = w.alloc (.cells #[poP g] 23) := ⟨_, rfl⟩
  obtain ⟨B, hB⟩ : ∃ B, B = w.heap.size := ⟨_, rfl⟩
  have a1 : Po W1 g s := by rw [hW]; exact A.alloc _
  have cb : W1.cell? ⟨B, 0, none⟩ = some (poP g) := by rw [hW, hB]; exact (Blk.new _ _ _).cell 0
  have c22 : W1.cell? ⟨g, 22, none⟩ = some (.int .i64 s.soon) := a1.cell 22
  have f22 := a1.frozen 22
  have hlt := A.lt
  have gB : B ≠ g := by omega
  have hb : Below w.heap.size w W1 := by rw [hW]; exact belowA (Below.refl _ _) _
  have a2 : Po (W1.setCell ⟨g, 22, none⟩ (.int .i64 0)) g { s with soon := 0 } := a1.set_ 22 _
  have cb2 : (W1.setCell ⟨g, 22, none⟩ (.int .i64 0)).cell? ⟨B, 0, none⟩ = some (poP g) := keepSet cb gB
  have A2 := Lib.hid a2
  have CB2 := Lib.hid cb2
  have U2 := Lib.hid ((Upd.ofBelow hb g).set 22 (.int .i64 0))
  have HW := Lib.hid hW
  have HB := Lib.hid hB
  clear a1 a2 hb A hW hB
  go_enter Tryz.func5, Tryz.ntmps5
  go_upto_region 4 with (fail)
  rw [← HW.out, ← HB.out]
  go_wp2_with fail
  refine (CL.out _ B A2.out CB2.out).mono ?_
  rintro e w3 ⟨rfl, a3, u3⟩
  have A3 := Lib.hid a3
  have U3 := Lib.hid (U2.out.trans u3)
  clear a3 u3
  go_wp2_with fail
  go_ret
  exact ⟨rfl, A3.out, U3.out⟩
end
end Go.Proofs.YtniagcbajjmopaaGreat
