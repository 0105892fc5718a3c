/- Write: at every state. -/
import Derived.Test.YtniagcbajjmopaaGreatPortsN
namespace Go.Proofs.YtniagcbajjmopaaGreat
open Go.RowKit
set_option linter.unusedVariables false
set_option linter.unusedSimpArgs false
set_option maxRecDepth 100000
/-- What words hold. -/
structure Fit2 (s : Pt) : Prop where
  base : Fit s
  f0 : 0 ≤ s.factor
  f1 : s.factor ≤ 255
  o0 : 0 ≤ s.output
  o1 : s.output ≤ 255
  w0 : 0 ≤ s.dividend
  w1 : s.dividend ≤ 65535
  q0 : 0 ≤ s.quotient
  q1 : s.quotient ≤ 65535
  p0 : 0 ≤ s.product
  p1 : s.product ≤ 65535
  d9 : s.dot ≤ 511
  l9 : s.line ≤ 511
  a0 : 0 ≤ s.say0
  a1 : s.say0 ≤ 65535
  b0 : 0 ≤ s.say1
  b1 : s.say1 ≤ 65535
  c0 : 0 ≤ s.auto0
  c1 : s.auto0 ≤ 65535
  e0 : 0 ≤ s.auto1
  e1 : s.auto1 ≤ 65535
  g0 : 0 ≤ s.shift0
  g1 : s.shift0 ≤ 65535
  h0 : 0 ≤ s.shift1
  h1 : s.shift1 ≤ 65535
/-- What a write does. -/
def wrP (p v : Int) (s : Pt) : Bool × Pt :=
  if p = 16406 then (true, holdF v { s with soon := 0 }) else
  if p = 16896 then (true, ctlF v { s with soon := 0 }) else
  if p = 16897 then (true, { s with soon := 0, output := v }) else
  if p = 16898 then (true, { s with soon := 0, factor := v }) else
  if p = 16899 then (true, { s with soon := 0, product := s.factor * v, quotient := v }) else
  if p = 16900 then (true, { s with soon := 0, dividend := s.dividend / 256 * 256 + v }) else
  if p = 16901 then (true, { s with soon := 0, dividend := s.dividend % 256 + v * 256 }) else
  if p = 16902 then (true, { s with soon := 0, quotient := if v = 0 then 65535 else s.dividend / v, product := if v = 0 then s.dividend else s.dividend % v }) else
  if p = 16903 then (true, { s with soon := 0, dot := s.dot / 256 * 256 + v }) else
  if p = 16904 then (true, { s with soon := 0, dot := s.dot % 256 + v % 2 * 256 }) else
  if p = 16905 then (true, { s with soon := 0, line := s.line / 256 * 256 + v }) else
  if p = 16906 then (true, { s with soon := 0, line := s.line % 256 + v % 2 * 256 }) else
  if p = 16909 then (true, { s with soon := 0, fast := decide (v % 2 = 1) }) else
  (false, s)
section
variable {w : World} {g : Nat} {s : Pt}
set_option maxHeartbeats 1000000 in
theorem wr_hold (A : Po w g s) (F : Fit2 s) (v : Int) (v0 : 0 ≤ v) (v1 : v ≤ 255) :
    Calls Tryz.prog 5 #[poP g, .int .u16 16406, .int .u8 v] w (PW w g (holdF v { s with soon := 0 }) (.bool true)) := by
  have CL := Lib.hid (fun (w' : World) (b : Nat) (a : Po w' g { s with soon := 0 }) (cb : w'.cell? ⟨b, 0, none⟩ = some (poP g)) => hold_any (s := { s with soon := 0 }) a v v0 v1)
  obtain ⟨s2, hs2⟩ : ∃ s2, holdF v { s with soon := 0 } = s2 := ⟨_, rfl⟩
  have CL2 : Hid (∀ (w' : World) (b : Nat), Po w' g { s with soon := 0 } → w'.cell? ⟨b, 0, none⟩ = some (poP g) → Calls Tryz.prog _ _ w' (PW w' g s2 (.tuple #[]))) := fun w' b a cb => by rw [← hs2]; exact CL.out w' b a cb
  rw [hs2]
  obtain ⟨W1, hW⟩ : ∃ W1, W1 = w.alloc (.cells #[poP g] 23) := ⟨_, rfl⟩
  obtain ⟨B, hB⟩ : ∃ B, B = w.heap.size := ⟨_, rfl⟩
  have a1 : Po W1 g s := by rw [hW]; exact A.alloc _
  have cb : W1.cell? ⟨B, 0, none⟩ = some (poP g) := by rw [hW, hB]; exact (Blk.new _ _ _).cell 0
  have c22 : W1.cell? ⟨g, 22, none⟩ = some (.int .i64 s.soon) := a1.cell 22
  have f22 := a1.frozen 22
  have hlt := A.lt
  have gB : B ≠ g := by omega
  have hb : Below w.heap.size w W1 := by rw [hW]; exact belowA (Below.refl _ _) _
  have a2 : Po (W1.setCell ⟨g, 22, none⟩ (.int .i64 0)) g { s with soon := 0 } := a1.set_ 22 _
  have cb2 : (W1.setCell ⟨g, 22, none⟩ (.int .i64 0)).cell? ⟨B, 0, none⟩ = some (poP g) := keepSet cb gB
  have A2 := Lib.hid a2
  have CB2 := Lib.hid cb2
  have U2 := Lib.hid ((Upd.ofBelow hb g).set 22 (.int .i64 0))
  have HW := Lib.hid hW
  have HB := Lib.hid hB
  clear a1 a2 hb A hW hB CL hs2
  go_enter Tryz.func5, Tryz.ntmps5
  go_upto_region 4 with (fail)
  rw [← HW.out, ← HB.out]
  go_wp2_with fail
  refine (CL2.out _ B A2.out CB2.out).mono ?_
  rintro e w3 ⟨rfl, a3, u3⟩
  have A3 := Lib.hid a3
  have U3 := Lib.hid (U2.out.trans u3)
  clear a3 u3
  go_wp2_with fail
  go_ret
  exact ⟨rfl, A3.out, U3.out⟩
set_option maxHeartbeats 1000000 in
theorem wr_controls (A : Po w g s) (F : Fit2 s) (v : Int) (v0 : 0 ≤ v) (v1 : v ≤ 255) :
    Calls Tryz.prog 5 #[poP g, .int .u16 16896, .int .u8 v] w (PW w g (ctlF v { s with soon := 0 }) (.bool true)) := by
  have CL := Lib.hid (fun (w' : World) (b : Nat) (a : Po w' g { s with soon := 0 }) (cb : w'.cell? ⟨b, 0, none⟩ = some (poP g)) => controls_any (s := { s with soon := 0 }) a v v0 v1 F.base.c0 F.base.c1)
  obtain ⟨s2, hs2⟩ : ∃ s2, ctlF v { s with soon := 0 } = s2 := ⟨_, rfl⟩
  have CL2 : Hid (∀ (w' : World) (b : Nat), Po w' g { s with soon := 0 } → w'.cell? ⟨b, 0, none⟩ = some (poP g) → Calls Tryz.prog _ _ w' (PW w' g s2 (.tuple #[]))) := fun w' b a cb => by rw [← hs2]; exact CL.out w' b a cb
  rw [hs2]
  obtain ⟨W1, hW⟩ : ∃ W1, W1 = w.alloc (.cells #[poP g] 23) := ⟨_, rfl⟩
  obtain ⟨B, hB⟩ : ∃ B, B = w.heap.size := ⟨_, rfl⟩
  have a1 : Po W1 g s := by rw [hW]; exact A.alloc _
  have cb : W1.cell? ⟨B, 0, none⟩ = some (poP g) := by rw [hW, hB]; exact (Blk.new _ _ _).cell 0
  have c22 : W1.cell? ⟨g, 22, none⟩ = some (.int .i64 s.soon) := a1.cell 22
  have f22 := a1.frozen 22
  have hlt := A.lt
  have gB : B ≠ g := by omega
  have hb : Below w.heap.size w W1 := by rw [hW]; exact belowA (Below.refl _ _) _
  have a2 : Po (W1.setCell ⟨g, 22, none⟩ (.int .i64 0)) g { s with soon := 0 } := a1.set_ 22 _
  have cb2 : (W1.setCell ⟨g, 22, none⟩ (.int .i64 0)).cell? ⟨B, 0, none⟩ = some (poP g) := keepSet cb gB
  have A2 := Lib.hid a2
  have CB2 := Lib.hid cb2
  have U2 := Lib.hid ((Upd.ofBelow hb g).set 22 (.int .i64 0))
  have HW := Lib.hid hW
  have HB := Lib.hid hB
  clear a1 a2 hb A hW hB CL hs2
  go_enter Tryz.func5, Tryz.ntmps5
  go_upto_region 4 with (fail)
  rw [← HW.out, ← HB.out]
  go_wp2_with fail
  refine (CL2.out _ B A2.out CB2.out).mono ?_
  rintro e w3 ⟨rfl, a3, u3⟩
  have A3 := Lib.hid a3
  have U3 := Lib.hid (U2.out.trans u3)
  clear a3 u3
  go_wp2_with fail
  go_ret
  exact ⟨rfl, A3.out, U3.out⟩
set_option maxHeartbeats 1000000 in
theorem wr_outputs (A : Po w g s) (F : Fit2 s) (v : Int) (v0 : 0 ≤ v) (v1 : v ≤ 255) :
    Calls Tryz.prog 5 #[poP g, .int .u16 16897, .int .u8 v] w (PW w g ({ s with soon := 0, output := v }) (.bool true)) := by
  have CL := Lib.hid (fun (w' : World) (b : Nat) (a : Po w' g { s with soon := 0 }) (cb : w'.cell? ⟨b, 0, none⟩ = some (poP g)) => outputs_any (s := { s with soon := 0 }) a v)
  obtain ⟨s2, hs2⟩ : ∃ s2, { s with soon := 0, output := v } = s2 := ⟨_, rfl⟩
  have CL2 : Hid (∀ (w' : World) (b : Nat), Po w' g { s with soon := 0 } → w'.cell? ⟨b, 0, none⟩ = some (poP g) → Calls Tryz.prog _ _ w' (PW w' g s2 (.tuple #[]))) := fun w' b a cb => by rw [← hs2]; exact CL.out w' b a cb
  rw [hs2]
  obtain ⟨W1, hW⟩ : ∃ W1, W1 = w.alloc (.cells #[poP g] 23) := ⟨_, rfl⟩
  obtain ⟨B, hB⟩ : ∃ B, B = w.heap.size := ⟨_, rfl⟩
  have a1 : Po W1 g s := by rw [hW]; exact A.alloc _
  have cb : W1.cell? ⟨B, 0, none⟩ = some (poP g) := by rw [hW, hB]; exact (Blk.new _ _ _).cell 0
  have c22 : W1.cell? ⟨g, 22, none⟩ = some (.int .i64 s.soon) := a1.cell 22
  have f22 := a1.frozen 22
  have hlt := A.lt
  have gB : B ≠ g := by omega
  have hb : Below w.heap.size w W1 := by rw [hW]; exact belowA (Below.refl _ _) _
  have a2 : Po (W1.setCell ⟨g, 22, none⟩ (.int .i64 0)) g { s with soon := 0 } := a1.set_ 22 _
  have cb2 : (W1.setCell ⟨g, 22, none⟩ (.int .i64 0)).cell? ⟨B, 0, none⟩ = some (poP g) := keepSet cb gB
  have A2 := Lib.hid a2
  have CB2 := Lib.hid cb2
  have U2 := Lib.hid ((Upd.ofBelow hb g).set 22 (.int .i64 0))
  have HW := Lib.hid hW
  have HB := Lib.hid hB
  clear a1 a2 hb A hW hB CL hs2
  go_enter Tryz.func5, Tryz.ntmps5
  go_upto_region 4 with (fail)
  rw [← HW.out, ← HB.out]
  go_wp2_with fail
  refine (CL2.out _ B A2.out CB2.out).mono ?_
  rintro e w3 ⟨rfl, a3, u3⟩
  have A3 := Lib.hid a3
  have U3 := Lib.hid (U2.out.trans u3)
  clear a3 u3
  go_wp2_with fail
  go_ret
  exact ⟨rfl, A3.out, U3.out⟩
set_option maxHeartbeats 1000000 in
theorem wr_factors (A : Po w g s) (F : Fit2 s) (v : Int) (v0 : 0 ≤ v) (v1 : v ≤ 255) :
    Calls Tryz.prog 5 #[poP g, .int .u16 16898, .int .u8 v] w (PW w g ({ s with soon := 0, factor := v }) (.bool true)) := by
  have CL := Lib.hid (fun (w' : World) (b : Nat) (a : Po w' g { s with soon := 0 }) (cb : w'.cell? ⟨b, 0, none⟩ = some (poP g)) => factors_any (s := { s with soon := 0 }) a v)
  obtain ⟨s2, hs2⟩ : ∃ s2, { s with soon := 0, factor := v } = s2 := ⟨_, rfl⟩
  have CL2 : Hid (∀ (w' : World) (b : Nat), Po w' g { s with soon := 0 } → w'.cell? ⟨b, 0, none⟩ = some (poP g) → Calls Tryz.prog _ _ w' (PW w' g s2 (.tuple #[]))) := fun w' b a cb => by rw [← hs2]; exact CL.out w' b a cb
  rw [hs2]
  obtain ⟨W1, hW⟩ : ∃ W1, W1 = w.alloc (.cells #[poP g] 23) := ⟨_, rfl⟩
  obtain ⟨B, hB⟩ : ∃ B, B = w.heap.size := ⟨_, rfl⟩
  have a1 : Po W1 g s := by rw [hW]; exact A.alloc _
  have cb : W1.cell? ⟨B, 0, none⟩ = some (poP g) := by rw [hW, hB]; exact (Blk.new _ _ _).cell 0
  have c22 : W1.cell? ⟨g, 22, none⟩ = some (.int .i64 s.soon) := a1.cell 22
  have f22 := a1.frozen 22
  have hlt := A.lt
  have gB : B ≠ g := by omega
  have hb : Below w.heap.size w W1 := by rw [hW]; exact belowA (Below.refl _ _) _
  have a2 : Po (W1.setCell ⟨g, 22, none⟩ (.int .i64 0)) g { s with soon := 0 } := a1.set_ 22 _
  have cb2 : (W1.setCell ⟨g, 22, none⟩ (.int .i64 0)).cell? ⟨B, 0, none⟩ = some (poP g) := keepSet cb gB
  have A2 := Lib.hid a2
  have CB2 := Lib.hid cb2
  have U2 := Lib.hid ((Upd.ofBelow hb g).set 22 (.int .i64 0))
  have HW := Lib.hid hW
  have HB := Lib.hid hB
  clear a1 a2 hb A hW hB CL hs2
  go_enter Tryz.func5, Tryz.ntmps5
  go_upto_region 4 with (fail)
  rw [← HW.out, ← HB.out]
  go_wp2_with fail
  refine (CL2.out _ B A2.out CB2.out).mono ?_
  rintro e w3 ⟨rfl, a3, u3⟩
  have A3 := Lib.hid a3
  have U3 := Lib.hid (U2.out.trans u3)
  clear a3 u3
  go_wp2_with fail
  go_ret
  exact ⟨rfl, A3.out, U3.out⟩
set_option maxHeartbeats 1000000 in
theorem wr_multiply (A : Po w g s) (F : Fit2 s) (v : Int) (v0 : 0 ≤ v) (v1 : v ≤ 255) :
    Calls Tryz.prog 5 #[poP g, .int .u16 16899, .int .u8 v] w (PW w g ({ s with soon := 0, product := s.factor * v, quotient := v }) (.bool true)) := by
  have CL := Lib.hid (fun (w' : World) (b : Nat) (a : Po w' g { s with soon := 0 }) (cb : w'.cell? ⟨b, 0, none⟩ = some (poP g)) => multiply_any (s := { s with soon := 0 }) a v F.f0 F.f1 v0 v1)
  obtain ⟨s2, hs2⟩ : ∃ s2, { s with soon := 0, product := s.factor * v, quotient := v } = s2 := ⟨_, rfl⟩
  have CL2 : Hid (∀ (w' : World) (b : Nat), Po w' g { s with soon := 0 } → w'.cell? ⟨b, 0, none⟩ = some (poP g) → Calls Tryz.prog _ _ w' (PW w' g s2 (.tuple #[]))) := fun w' b a cb => by rw [← hs2]; exact CL.out w' b a cb
  rw [hs2]
  obtain ⟨W1, hW⟩ : ∃ W1, W1 = w.alloc (.cells #[poP g] 23) := ⟨_, rfl⟩
  obtain ⟨B, hB⟩ : ∃ B, B = w.heap.size := ⟨_, rfl⟩
  have a1 : Po W1 g s := by rw [hW]; exact A.alloc _
  have cb : W1.cell? ⟨B, 0, none⟩ = some (poP g) := by rw [hW, hB]; exact (Blk.new _ _ _).cell 0
  have c22 : W1.cell? ⟨g, 22, none⟩ = some (.int .i64 s.soon) := a1.cell 22
  have f22 := a1.frozen 22
  have hlt := A.lt
  have gB : B ≠ g := by omega
  have hb : Below w.heap.size w W1 := by rw [hW]; exact belowA (Below.refl _ _) _
  have a2 : Po (W1.setCell ⟨g, 22, none⟩ (.int .i64 0)) g { s with soon := 0 } := a1.set_ 22 _
  have cb2 : (W1.setCell ⟨g, 22, none⟩ (.int .i64 0)).cell? ⟨B, 0, none⟩ = some (poP g) := keepSet cb gB
  have A2 := Lib.hid a2
  have CB2 := Lib.hid cb2
  have U2 := Lib.hid ((Upd.ofBelow hb g).set 22 (.int .i64 0))
  have HW := Lib.hid hW
  have HB := Lib.hid hB
  clear a1 a2 hb A hW hB CL hs2
  go_enter Tryz.func5, Tryz.ntmps5
  go_upto_region 4 with (fail)
  rw [← HW.out, ← HB.out]
  go_wp2_with fail
  refine (CL2.out _ B A2.out CB2.out).mono ?_
  rintro e w3 ⟨rfl, a3, u3⟩
  have A3 := Lib.hid a3
  have U3 := Lib.hid (U2.out.trans u3)
  clear a3 u3
  go_wp2_with fail
  go_ret
  exact ⟨rfl, A3.out, U3.out⟩
set_option maxHeartbeats 1000000 in
theorem wr_c1 (A : Po w g s) (F : Fit2 s) (v : Int) (v0 : 0 ≤ v) (v1 : v ≤ 255) :
    Calls Tryz.prog 5 #[poP g, .int .u16 16900, .int .u8 v] w (PW w g ({ s with soon := 0, dividend := s.dividend / 256 * 256 + v }) (.bool true)) := by
  have CL := Lib.hid (fun (w' : World) (b : Nat) (a : Po w' g { s with soon := 0 }) (cb : w'.cell? ⟨b, 0, none⟩ = some (poP g)) => clo1 (s := { s with soon := 0 }) a b v F.w0 F.w1 v0 v1 cb)
  obtain ⟨s2, hs2⟩ : ∃ s2, { s with soon := 0, dividend := s.dividend / 256 * 256 + v } = s2 := ⟨_, rfl⟩
  have CL2 : Hid (∀ (w' : World) (b : Nat), Po w' g { s with soon := 0 } → w'.cell? ⟨b, 0, none⟩ = some (poP g) → Calls Tryz.prog _ _ w' (PW w' g s2 (.tuple #[]))) := fun w' b a cb => by rw [← hs2]; exact CL.out w' b a cb
  rw [hs2]
  obtain ⟨W1, hW⟩ : ∃ W1, W1 = w.alloc (.cells #[poP g] 23) := ⟨_, rfl⟩
  obtain ⟨B, hB⟩ : ∃ B, B = w.heap.size := ⟨_, rfl⟩
  have a1 : Po W1 g s := by rw [hW]; exact A.alloc _
  have cb : W1.cell? ⟨B, 0, none⟩ = some (poP g) := by rw [hW, hB]; exact (Blk.new _ _ _).cell 0
  have c22 : W1.cell? ⟨g, 22, none⟩ = some (.int .i64 s.soon) := a1.cell 22
  have f22 := a1.frozen 22
  have hlt := A.lt
  have gB : B ≠ g := by omega
  have hb : Below w.heap.size w W1 := by rw [hW]; exact belowA (Below.refl _ _) _
  have a2 : Po (W1.setCell ⟨g, 22, none⟩ (.int .i64 0)) g { s with soon := 0 } := a1.set_ 22 _
  have cb2 : (W1.setCell ⟨g, 22, none⟩ (.int .i64 0)).cell? ⟨B, 0, none⟩ = some (poP g) := keepSet cb gB
  have A2 := Lib.hid a2
  have CB2 := Lib.hid cb2
  have U2 := Lib.hid ((Upd.ofBelow hb g).set 22 (.int .i64 0))
  have HW := Lib.hid hW
  have HB := Lib.hid hB
  clear a1 a2 hb A hW hB CL hs2
  go_enter Tryz.func5, Tryz.ntmps5
  go_upto_region 4 with (fail)
  rw [← HW.out, ← HB.out]
  go_wp2_with fail
  refine (CL2.out _ B A2.out CB2.out).mono ?_
  rintro e w3 ⟨rfl, a3, u3⟩
  have A3 := Lib.hid a3
  have U3 := Lib.hid (U2.out.trans u3)
  clear a3 u3
  go_wp2_with fail
  go_ret
  exact ⟨rfl, A3.out, U3.out⟩
set_option maxHeartbeats 1000000 in
theorem wr_c2 (A : Po w g s) (F : Fit2 s) (v : Int) (v0 : 0 ≤ v) (v1 : v ≤ 255) :
    Calls Tryz.prog 5 #[poP g, .int .u16 16901, .int .u8 v] w (PW w g ({ s with soon := 0, dividend := s.dividend % 256 + v * 256 }) (.bool true)) := by
  have CL := Lib.hid (fun (w' : World) (b : Nat) (a : Po w' g { s with soon := 0 }) (cb : w'.cell? ⟨b, 0, none⟩ = some (poP g)) => clo2 (s := { s with soon := 0 }) a b v F.w0 F.w1 v0 v1 cb)
  obtain ⟨s2, hs2⟩ : ∃ s2, { s with soon := 0, dividend := s.dividend % 256 + v * 256 } = s2 := ⟨_, rfl⟩
  have CL2 : Hid (∀ (w' : World) (b : Nat), Po w' g { s with soon := 0 } → w'.cell? ⟨b, 0, none⟩ = some (poP g) → Calls Tryz.prog _ _ w' (PW w' g s2 (.tuple #[]))) := fun w' b a cb => by rw [← hs2]; exact CL.out w' b a cb
  rw [hs2]
  obtain ⟨W1, hW⟩ : ∃ W1, W1 = w.alloc (.cells #[poP g] 23) := ⟨_, rfl⟩
  obtain ⟨B, hB⟩ : ∃ B, B = w.heap.size := ⟨_, rfl⟩
  have a1 : Po W1 g s := by rw [hW]; exact A.alloc _
  have cb : W1.cell? ⟨B, 0, none⟩ = some (poP g) := by rw [hW, hB]; exact (Blk.new _ _ _).cell 0
  have c22 : W1.cell? ⟨g, 22, none⟩ = some (.int .i64 s.soon) := a1.cell 22
  have f22 := a1.frozen 22
  have hlt := A.lt
  have gB : B ≠ g := by omega
  have hb : Below w.heap.size w W1 := by rw [hW]; exact belowA (Below.refl _ _) _
  have a2 : Po (W1.setCell ⟨g, 22, none⟩ (.int .i64 0)) g { s with soon := 0 } := a1.set_ 22 _
  have cb2 : (W1.setCell ⟨g, 22, none⟩ (.int .i64 0)).cell? ⟨B, 0, none⟩ = some (poP g) := keepSet cb gB
  have A2 := Lib.hid a2
  have CB2 := Lib.hid cb2
  have U2 := Lib.hid ((Upd.ofBelow hb g).set 22 (.int .i64 0))
  have HW := Lib.hid hW
  have HB := Lib.hid hB
  clear a1 a2 hb A hW hB CL hs2
  go_enter Tryz.func5, Tryz.ntmps5
  go_upto_region 4 with (fail)
  rw [← HW.out, ← HB.out]
  go_wp2_with fail
  refine (CL2.out _ B A2.out CB2.out).mono ?_
  rintro e w3 ⟨rfl, a3, u3⟩
  have A3 := Lib.hid a3
  have U3 := Lib.hid (U2.out.trans u3)
  clear a3 u3
  go_wp2_with fail
  go_ret
  exact ⟨rfl, A3.out, U3.out⟩
set_option maxHeartbeats 1000000 in
theorem wr_divide (A : Po w g s) (F : Fit2 s) (v : Int) (v0 : 0 ≤ v) (v1 : v ≤ 255) :
    Calls Tryz.prog 5 #[poP g, .int .u16 16902, .int .u8 v] w (PW w g ({ s with soon := 0, quotient := if v = 0 then 65535 else s.dividend / v, product := if v = 0 then s.dividend else s.dividend % v }) (.bool true)) := by
  have CL := Lib.hid (fun (w' : World) (b : Nat) (a : Po w' g { s with soon := 0 }) (cb : w'.cell? ⟨b, 0, none⟩ = some (poP g)) => divide_any (s := { s with soon := 0 }) a v s.dividend rfl F.w0 F.w1 v0 v1)
  obtain ⟨s2, hs2⟩ : ∃ s2, { s with soon := 0, quotient := if v = 0 then 65535 else s.dividend / v, product := if v = 0 then s.dividend else s.dividend % v } = s2 := ⟨_, rfl⟩
  have CL2 : Hid (∀ (w' : World) (b : Nat), Po w' g { s with soon := 0 } → w'.cell? ⟨b, 0, none⟩ = some (poP g) → Calls Tryz.prog _ _ w' (PW w' g s2 (.tuple #[]))) := fun w' b a cb => by rw [← hs2]; exact CL.out w' b a cb
  rw [hs2]
  obtain ⟨W1, hW⟩ : ∃ W1, W1 = w.alloc (.cells #[poP g] 23) := ⟨_, rfl⟩
  obtain ⟨B, hB⟩ : ∃ B, B = w.heap.size := ⟨_, rfl⟩
  have a1 : Po W1 g s := by rw [hW]; exact A.alloc _
  have cb : W1.cell? ⟨B, 0, none⟩ = some (poP g) := by rw [hW, hB]; exact (Blk.new _ _ _).cell 0
  have c22 : W1.cell? ⟨g, 22, none⟩ = some (.int .i64 s.soon) := a1.cell 22
  have f22 := a1.frozen 22
  have hlt := A.lt
  have gB : B ≠ g := by omega
  have hb : Below w.heap.size w W1 := by rw [hW]; exact belowA (Below.refl _ _) _
  have a2 : Po (W1.setCell ⟨g, 22, none⟩ (.int .i64 0)) g { s with soon := 0 } := a1.set_ 22 _
  have cb2 : (W1.setCell ⟨g, 22, none⟩ (.int .i64 0)).cell? ⟨B, 0, none⟩ = some (poP g) := keepSet cb gB
  have A2 := Lib.hid a2
  have CB2 := Lib.hid cb2
  have U2 := Lib.hid ((Upd.ofBelow hb g).set 22 (.int .i64 0))
  have HW := Lib.hid hW
  have HB := Lib.hid hB
  clear a1 a2 hb A hW hB CL hs2
  go_enter Tryz.func5, Tryz.ntmps5
  go_upto_region 4 with (fail)
  rw [← HW.out, ← HB.out]
  go_wp2_with fail
  refine (CL2.out _ B A2.out CB2.out).mono ?_
  rintro e w3 ⟨rfl, a3, u3⟩
  have A3 := Lib.hid a3
  have U3 := Lib.hid (U2.out.trans u3)
  clear a3 u3
  go_wp2_with fail
  go_ret
  exact ⟨rfl, A3.out, U3.out⟩
set_option maxHeartbeats 1000000 in
theorem wr_c3 (A : Po w g s) (F : Fit2 s) (v : Int) (v0 : 0 ≤ v) (v1 : v ≤ 255) :
    Calls Tryz.prog 5 #[poP g, .int .u16 16903, .int .u8 v] w (PW w g ({ s with soon := 0, dot := s.dot / 256 * 256 + v }) (.bool true)) := by
  have CL := Lib.hid (fun (w' : World) (b : Nat) (a : Po w' g { s with soon := 0 }) (cb : w'.cell? ⟨b, 0, none⟩ = some (poP g)) => clo3 (s := { s with soon := 0 }) a b v F.base.d0 F.base.d1 v0 v1 cb)
  obtain ⟨s2, hs2⟩ : ∃ s2, { s with soon := 0, dot := s.dot / 256 * 256 + v } = s2 := ⟨_, rfl⟩
  have CL2 : Hid (∀ (w' : World) (b : Nat), Po w' g { s with soon := 0 } → w'.cell? ⟨b, 0, none⟩ = some (poP g) → Calls Tryz.prog _ _ w' (PW w' g s2 (.tuple #[]))) := fun w' b a cb => by rw [← hs2]; exact CL.out w' b a cb
  rw [hs2]
  obtain ⟨W1, hW⟩ : ∃ W1, W1 = w.alloc (.cells #[poP g] 23) := ⟨_, rfl⟩
  obtain ⟨B, hB⟩ : ∃ B, B = w.heap.size := ⟨_, rfl⟩
  have a1 : Po W1 g s := by rw [hW]; exact A.alloc _
  have cb : W1.cell? ⟨B, 0, none⟩ = some (poP g) := by rw [hW, hB]; exact (Blk.new _ _ _).cell 0
  have c22 : W1.cell? ⟨g, 22, none⟩ = some (.int .i64 s.soon) := a1.cell 22
  have f22 := a1.frozen 22
  have hlt := A.lt
  have gB : B ≠ g := by omega
  have hb : Below w.heap.size w W1 := by rw [hW]; exact belowA (Below.refl _ _) _
  have a2 : Po (W1.setCell ⟨g, 22, none⟩ (.int .i64 0)) g { s with soon := 0 } := a1.set_ 22 _
  have cb2 : (W1.setCell ⟨g, 22, none⟩ (.int .i64 0)).cell? ⟨B, 0, none⟩ = some (poP g) := keepSet cb gB
  have A2 := Lib.hid a2
  have CB2 := Lib.hid cb2
  have U2 := Lib.hid ((Upd.ofBelow hb g).set 22 (.int .i64 0))
  have HW := Lib.hid hW
  have HB := Lib.hid hB
  clear a1 a2 hb A hW hB CL hs2
  go_enter Tryz.func5, Tryz.ntmps5
  go_upto_region 4 with (fail)
  rw [← HW.out, ← HB.out]
  go_wp2_with fail
  refine (CL2.out _ B A2.out CB2.out).mono ?_
  rintro e w3 ⟨rfl, a3, u3⟩
  have A3 := Lib.hid a3
  have U3 := Lib.hid (U2.out.trans u3)
  clear a3 u3
  go_wp2_with fail
  go_ret
  exact ⟨rfl, A3.out, U3.out⟩
set_option maxHeartbeats 1000000 in
theorem wr_c4 (A : Po w g s) (F : Fit2 s) (v : Int) (v0 : 0 ≤ v) (v1 : v ≤ 255) :
    Calls Tryz.prog 5 #[poP g, .int .u16 16904, .int .u8 v] w (PW w g ({ s with soon := 0, dot := s.dot % 256 + v % 2 * 256 }) (.bool true)) := by
  have CL := Lib.hid (fun (w' : World) (b : Nat) (a : Po w' g { s with soon := 0 }) (cb : w'.cell? ⟨b, 0, none⟩ = some (poP g)) => clo4 (s := { s with soon := 0 }) a b v F.base.d0 F.base.d1 v0 v1 cb)
  obtain ⟨s2, hs2⟩ : ∃ s2, { s with soon := 0, dot := s.dot % 256 + v % 2 * 256 } = s2 := ⟨_, rfl⟩
  have CL2 : Hid (∀ (w' : World) (b : Nat), Po w' g { s with soon := 0 } → w'.cell? ⟨b, 0, none⟩ = some (poP g) → Calls Tryz.prog _ _ w' (PW w' g s2 (.tuple #[]))) := fun w' b a cb => by rw [← hs2]; exact CL.out w' b a cb
  rw [hs2]
  obtain ⟨W1, hW⟩ : ∃ W1, W1 = w.alloc (.cells #[poP g] 23) := ⟨_, rfl⟩
  obtain ⟨B, hB⟩ : ∃ B, B = w.heap.size := ⟨_, rfl⟩
  have a1 : Po W1 g s := by rw [hW]; exact A.alloc _
  have cb : W1.cell? ⟨B, 0, none⟩ = some (poP g) := by rw [hW, hB]; exact (Blk.new _ _ _).cell 0
  have c22 : W1.cell? ⟨g, 22, none⟩ = some (.int .i64 s.soon) := a1.cell 22
  have f22 := a1.frozen 22
  have hlt := A.lt
  have gB : B ≠ g := by omega
  have hb : Below w.heap.size w W1 := by rw [hW]; exact belowA (Below.refl _ _) _
  have a2 : Po (W1.setCell ⟨g, 22, none⟩ (.int .i64 0)) g { s with soon := 0 } := a1.set_ 22 _
  have cb2 : (W1.setCell ⟨g, 22, none⟩ (.int .i64 0)).cell? ⟨B, 0, none⟩ = some (poP g) := keepSet cb gB
  have A2 := Lib.hid a2
  have CB2 := Lib.hid cb2
  have U2 := Lib.hid ((Upd.ofBelow hb g).set 22 (.int .i64 0))
  have HW := Lib.hid hW
  have HB := Lib.hid hB
  clear a1 a2 hb A hW hB CL hs2
  go_enter Tryz.func5, Tryz.ntmps5
  go_upto_region 4 with (fail)
  rw [← HW.out, ← HB.out]
  go_wp2_with fail
  refine (CL2.out _ B A2.out CB2.out).mono ?_
  rintro e w3 ⟨rfl, a3, u3⟩
  have A3 := Lib.hid a3
  have U3 := Lib.hid (U2.out.trans u3)
  clear a3 u3
  go_wp2_with fail
  go_ret
  exact ⟨rfl, A3.out, U3.out⟩
set_option maxHeartbeats 1000000 in
theorem wr_c5 (A : Po w g s) (F : Fit2 s) (v : Int) (v0 : 0 ≤ v) (v1 : v ≤ 255) :
    Calls Tryz.prog 5 #[poP g, .int .u16 16905, .int .u8 v] w (PW w g ({ s with soon := 0, line := s.line / 256 * 256 + v }) (.bool true)) := by
  have CL := Lib.hid (fun (w' : World) (b : Nat) (a : Po w' g { s with soon := 0 }) (cb : w'.cell? ⟨b, 0, none⟩ = some (poP g)) => clo5 (s := { s with soon := 0 }) a b v F.base.l0 F.base.l1 v0 v1 cb)
  obtain ⟨s2, hs2⟩ : ∃ s2, { s with soon := 0, line := s.line / 256 * 256 + v } = s2 := ⟨_, rfl⟩
  have CL2 : Hid (∀ (w' : World) (b : Nat), Po w' g { s with soon := 0 } → w'.cell? ⟨b, 0, none⟩ = some (poP g) → Calls Tryz.prog _ _ w' (PW w' g s2 (.tuple #[]))) := fun w' b a cb => by rw [← hs2]; exact CL.out w' b a cb
  rw [hs2]
  obtain ⟨W1, hW⟩ : ∃ W1, W1 = w.alloc (.cells #[poP g] 23) := ⟨_, rfl⟩
  obtain ⟨B, hB⟩ : ∃ B, B = w.heap.size := ⟨_, rfl⟩
  have a1 : Po W1 g s := by rw [hW]; exact A.alloc _
  have cb : W1.cell? ⟨B, 0, none⟩ = some (poP g) := by rw [hW, hB]; exact (Blk.new _ _ _).cell 0
  have c22 : W1.cell? ⟨g, 22, none⟩ = some (.int .i64 s.soon) := a1.cell 22
  have f22 := a1.frozen 22
  have hlt := A.lt
  have gB : B ≠ g := by omega
  have hb : Below w.heap.size w W1 := by rw [hW]; exact belowA (Below.refl _ _) _
  have a2 : Po (W1.setCell ⟨g, 22, none⟩ (.int .i64 0)) g { s with soon := 0 } := a1.set_ 22 _
  have cb2 : (W1.setCell ⟨g, 22, none⟩ (.int .i64 0)).cell? ⟨B, 0, none⟩ = some (poP g) := keepSet cb gB
  have A2 := Lib.hid a2
  have CB2 := Lib.hid cb2
  have U2 := Lib.hid ((Upd.ofBelow hb g).set 22 (.int .i64 0))
  have HW := Lib.hid hW
  have HB := Lib.hid hB
  clear a1 a2 hb A hW hB CL hs2
  go_enter Tryz.func5, Tryz.ntmps5
  go_upto_region 4 with (fail)
  rw [← HW.out, ← HB.out]
  go_wp2_with fail
  refine (CL2.out _ B A2.out CB2.out).mono ?_
  rintro e w3 ⟨rfl, a3, u3⟩
  have A3 := Lib.hid a3
  have U3 := Lib.hid (U2.out.trans u3)
  clear a3 u3
  go_wp2_with fail
  go_ret
  exact ⟨rfl, A3.out, U3.out⟩
set_option maxHeartbeats 1000000 in
theorem wr_c6 (A : Po w g s) (F : Fit2 s) (v : Int) (v0 : 0 ≤ v) (v1 : v ≤ 255) :
    Calls Tryz.prog 5 #[poP g, .int .u16 16906, .int .u8 v] w (PW w g ({ s with soon := 0, line := s.line % 256 + v % 2 * 256 }) (.bool true)) := by
  have CL := Lib.hid (fun (w' : World) (b : Nat) (a : Po w' g { s with soon := 0 }) (cb : w'.cell? ⟨b, 0, none⟩ = some (poP g)) => clo6 (s := { s with soon := 0 }) a b v F.base.l0 F.base.l1 v0 v1 cb)
  obtain ⟨s2, hs2⟩ : ∃ s2, { s with soon := 0, line := s.line % 256 + v % 2 * 256 } = s2 := ⟨_, rfl⟩
  have CL2 : Hid (∀ (w' : World) (b : Nat), Po w' g { s with soon := 0 } → w'.cell? ⟨b, 0, none⟩ = some (poP g) → Calls Tryz.prog _ _ w' (PW w' g s2 (.tuple #[]))) := fun w' b a cb => by rw [← hs2]; exact CL.out w' b a cb
  rw [hs2]
  obtain ⟨W1, hW⟩ : ∃ W1, W1 = w.alloc (.cells #[poP g] 23) := ⟨_, rfl⟩
  obtain ⟨B, hB⟩ : ∃ B, B = w.heap.size := ⟨_, rfl⟩
  have a1 : Po W1 g s := by rw [hW]; exact A.alloc _
  have cb : W1.cell? ⟨B, 0, none⟩ = some (poP g) := by rw [hW, hB]; exact (Blk.new _ _ _).cell 0
  have c22 : W1.cell? ⟨g, 22, none⟩ = some (.int .i64 s.soon) := a1.cell 22
  have f22 := a1.frozen 22
  have hlt := A.lt
  have gB : B ≠ g := by omega
  have hb : Below w.heap.size w W1 := by rw [hW]; exact belowA (Below.refl _ _) _
  have a2 : Po (W1.setCell ⟨g, 22, none⟩ (.int .i64 0)) g { s with soon := 0 } := a1.set_ 22 _
  have cb2 : (W1.setCell ⟨g, 22, none⟩ (.int .i64 0)).cell? ⟨B, 0, none⟩ = some (poP g) := keepSet cb gB
  have A2 := Lib.hid a2
  have CB2 := Lib.hid cb2
  have U2 := Lib.hid ((Upd.ofBelow hb g).set 22 (.int .i64 0))
  have HW := Lib.hid hW
  have HB := Lib.hid hB
  clear a1 a2 hb A hW hB CL hs2
  go_enter Tryz.func5, Tryz.ntmps5
  go_upto_region 4 with (fail)
  rw [← HW.out, ← HB.out]
  go_wp2_with fail
  refine (CL2.out _ B A2.out CB2.out).mono ?_
  rintro e w3 ⟨rfl, a3, u3⟩
  have A3 := Lib.hid a3
  have U3 := Lib.hid (U2.out.trans u3)
  clear a3 u3
  go_wp2_with fail
  go_ret
  exact ⟨rfl, A3.out, U3.out⟩
set_option maxHeartbeats 1000000 in
theorem wr_fasts (A : Po w g s) (F : Fit2 s) (v : Int) (v0 : 0 ≤ v) (v1 : v ≤ 255) :
    Calls Tryz.prog 5 #[poP g, .int .u16 16909, .int .u8 v] w (PW w g ({ s with soon := 0, fast := decide (v % 2 = 1) }) (.bool true)) := by
  have CL := Lib.hid (fun (w' : World) (b : Nat) (a : Po w' g { s with soon := 0 }) (cb : w'.cell? ⟨b, 0, none⟩ = some (poP g)) => fasts_any (s := { s with soon := 0 }) a v v0 v1)
  obtain ⟨s2, hs2⟩ : ∃ s2, { s with soon := 0, fast := decide (v % 2 = 1) } = s2 := ⟨_, rfl⟩
  have CL2 : Hid (∀ (w' : World) (b : Nat), Po w' g { s with soon := 0 } → w'.cell? ⟨b, 0, none⟩ = some (poP g) → Calls Tryz.prog _ _ w' (PW w' g s2 (.tuple #[]))) := fun w' b a cb => by rw [← hs2]; exact CL.out w' b a cb
  rw [hs2]
  obtain ⟨W1, hW⟩ : ∃ W1, W1 = w.alloc (.cells #[poP g] 23) := ⟨_, rfl⟩
  obtain ⟨B, hB⟩ : ∃ B, B = w.heap.size := ⟨_, rfl⟩
  have a1 : Po W1 g s := by rw [hW]; exact A.alloc _
  have cb : W1.cell? ⟨B, 0, none⟩ = some (poP g) := by rw [hW, hB]; exact (Blk.new _ _ _).cell 0
  have c22 : W1.cell? ⟨g, 22, none⟩ = some (.int .i64 s.soon) := a1.cell 22
  have f22 := a1.frozen 22
  have hlt := A.lt
  have gB : B ≠ g := by omega
  have hb : Below w.heap.size w W1 := by rw [hW]; exact belowA (Below.refl _ _) _
  have a2 : Po (W1.setCell ⟨g, 22, none⟩ (.int .i64 0)) g { s with soon := 0 } := a1.set_ 22 _
  have cb2 : (W1.setCell ⟨g, 22, none⟩ (.int .i64 0)).cell? ⟨B, 0, none⟩ = some (poP g) := keepSet cb gB
  have A2 := Lib.hid a2
  have CB2 := Lib.hid cb2
  have U2 := Lib.hid ((Upd.ofBelow hb g).set 22 (.int .i64 0))
  have HW := Lib.hid hW
  have HB := Lib.hid hB
  clear a1 a2 hb A hW hB CL hs2
  go_enter Tryz.func5, Tryz.ntmps5
  go_upto_region 4 with (fail)
  rw [← HW.out, ← HB.out]
  go_wp2_with fail
  refine (CL2.out _ B A2.out CB2.out).mono ?_
  rintro e w3 ⟨rfl, a3, u3⟩
  have A3 := Lib.hid a3
  have U3 := Lib.hid (U2.out.trans u3)
  clear a3 u3
  go_wp2_with fail
  go_ret
  exact ⟨rfl, A3.out, U3.out⟩
set_option maxHeartbeats 2000000 in
theorem wr_none (A : Po w g s) (p v : Int) (hp : p ≠ 16406 ∧ p ≠ 16896 ∧ p ≠ 16897 ∧ p ≠ 16898 ∧ p ≠ 16899 ∧ p ≠ 16900 ∧ p ≠ 16901 ∧ p ≠ 16902 ∧ p ≠ 16903 ∧ p ≠ 16904 ∧ p ≠ 16905 ∧ p ≠ 16906 ∧ p ≠ 16909) : Calls Tryz.prog 5 #[poP g, .int .u16 p, .int .u8 v] w (Says w (.bool false)) := by
  obtain ⟨h0, h1, h2, h3, h4, h5, h6, h7, h8, h9, h10, h11, h12⟩ := hp
  have t0 : (p == 16406) = false := by simpa using h0
  have t1 : (p == 16896) = false := by simpa using h1
  have t2 : (p == 16897) = false := by simpa using h2
  have t3 : (p == 16898) = false := by simpa using h3
  have t4 : (p == 16899) = false := by simpa using h4
  have t5 : (p == 16900) = false := by simpa using h5
  have t6 : (p == 16901) = false := by simpa using h6
  have t7 : (p == 16902) = false := by simpa using h7
  have t8 : (p == 16903) = false := by simpa using h8
  have t9 : (p == 16904) = false := by simpa using h9
  have t10 : (p == 16905) = false := by simpa using h10
  have t11 : (p == 16906) = false := by simpa using h11
  have t12 : (p == 16909) = false := by simpa using h12
  clear A h0 h1 h2 h3 h4 h5 h6 h7 h8 h9 h10 h11 h12
  go_enter Tryz.func5, Tryz.ntmps5
  go_wp2_with fail
  go_ret
  exact ⟨rfl, belowA (Below.refl _ _) _⟩
theorem write_gen (A : Po w g s) (F : Fit2 s) (p v : Int) (v0 : 0 ≤ v) (v1 : v ≤ 255) :
    Calls Tryz.prog 5 #[poP g, .int .u16 p, .int .u8 v] w (PW w g (wrP p v s).2 (.bool (wrP p v s).1)) := by
  by_cases h0 : p = 16406
  · subst h0
    exact wr_hold A F v v0 v1
  by_cases h1 : p = 16896
  · subst h1
    exact wr_controls A F v v0 v1
  by_cases h2 : p = 16897
  · subst h2
    exact wr_outputs A F v v0 v1
  by_cases h3 : p = 16898
  · subst h3
    exact wr_factors A F v v0 v1
  by_cases h4 : p = 16899
  · subst h4
    exact wr_multiply A F v v0 v1
  by_cases h5 : p = 16900
  · subst h5
    exact wr_c1 A F v v0 v1
  by_cases h6 : p = 16901
  · subst h6
    exact wr_c2 A F v v0 v1
  by_cases h7 : p = 16902
  · subst h7
    exact wr_divide A F v v0 v1
  by_cases h8 : p = 16903
  · subst h8
    exact wr_c3 A F v v0 v1
  by_cases h9 : p = 16904
  · subst h9
    exact wr_c4 A F v v0 v1
  by_cases h10 : p = 16905
  · subst h10
    exact wr_c5 A F v v0 v1
  by_cases h11 : p = 16906
  · subst h11
    exact wr_c6 A F v v0 v1
  by_cases h12 : p = 16909
  · subst h12
    exact wr_fasts A F v v0 v1
  have e : wrP p v s = (false, s) := by
    unfold wrP
    rw [if_neg h0, if_neg h1, if_neg h2, if_neg h3, if_neg h4, if_neg h5, if_neg h6, if_neg h7, if_neg h8, if_neg h9, if_neg h10, if_neg h11, if_neg h12]
  rw [e]
  exact (wr_none A p v ⟨h0, h1, h2, h3, h4, h5, h6, h7, h8, h9, h10, h11, h12⟩).mono fun e' w' ⟨h1, h2⟩ => ⟨h1, A.kept h2, Upd.ofBelow h2 g⟩
theorem wrP_fit (F : Fit2 s) (p v : Int) (v0 : 0 ≤ v) (v1 : v ≤ 255) : Fit2 (wrP p v s).2 := by
  obtain ⟨⟨n0, n1, c0, c1, d0, d1, l0, l1⟩, f0, f1, o0, o1, w0, w1, q0, q1, p0, p1, d9, l9, a0, a1, b0, b1, cc0, cc1, e0, e1, g0, g1, hh0, hh1⟩ := F
  have hm0 : 0 ≤ s.factor * v := Int.mul_nonneg f0 v0
  have hm1 : s.factor * v ≤ 65025 := Int.le_trans (Int.mul_le_mul_of_nonneg_right f1 v0) (Int.mul_le_mul_of_nonneg_left v1 (by omega))
  have hq0 : 0 ≤ s.dividend / v := Int.ediv_nonneg w0 v0
  have hq1 : s.dividend / v ≤ s.dividend := Int.ediv_le_self v w0
  have hr : v ≠ 0 → 0 ≤ s.dividend % v ∧ s.dividend % v < v := fun h => ⟨Int.emod_nonneg _ h, Int.emod_lt_of_pos _ (by omega)⟩
  unfold wrP
  by_cases h0 : p = 16406
  · rw [if_pos h0]
    show Fit2 (holdF v { s with soon := 0 })
    unfold holdF
    split
    · exact ⟨⟨n0, n1, c0, c1, d0, d1, l0, l1⟩, f0, f1, o0, o1, w0, w1, q0, q1, p0, p1, d9, l9, a0, a1, b0, b1, cc0, cc1, e0, e1, a0, a1, b0, b1⟩
    · exact ⟨⟨n0, n1, c0, c1, d0, d1, l0, l1⟩, f0, f1, o0, o1, w0, w1, q0, q1, p0, p1, d9, l9, a0, a1, b0, b1, cc0, cc1, e0, e1, g0, g1, hh0, hh1⟩
  rw [if_neg h0]
  by_cases h1 : p = 16896
  · rw [if_pos h1]
    exact ⟨⟨n0, n1, v0, v1, d0, d1, l0, l1⟩, f0, f1, o0, o1, w0, w1, q0, q1, p0, p1, d9, l9, a0, a1, b0, b1, cc0, cc1, e0, e1, g0, g1, hh0, hh1⟩
  rw [if_neg h1]
  by_cases h2 : p = 16897
  · rw [if_pos h2]
    exact ⟨⟨n0, n1, c0, c1, d0, d1, l0, l1⟩, f0, f1, v0, v1, w0, w1, q0, q1, p0, p1, d9, l9, a0, a1, b0, b1, cc0, cc1, e0, e1, g0, g1, hh0, hh1⟩
  rw [if_neg h2]
  by_cases h3 : p = 16898
  · rw [if_pos h3]
    exact ⟨⟨n0, n1, c0, c1, d0, d1, l0, l1⟩, v0, v1, o0, o1, w0, w1, q0, q1, p0, p1, d9, l9, a0, a1, b0, b1, cc0, cc1, e0, e1, g0, g1, hh0, hh1⟩
  rw [if_neg h3]
  by_cases h4 : p = 16899
  · rw [if_pos h4]
    exact ⟨⟨n0, n1, c0, c1, d0, d1, l0, l1⟩, f0, f1, o0, o1, w0, w1, v0, (show v ≤ 65535 by omega), hm0, (show s.factor * v ≤ 65535 by omega), d9, l9, a0, a1, b0, b1, cc0, cc1, e0, e1, g0, g1, hh0, hh1⟩
  rw [if_neg h4]
  by_cases h5 : p = 16900
  · rw [if_pos h5]
    exact ⟨⟨n0, n1, c0, c1, d0, d1, l0, l1⟩, f0, f1, o0, o1, (show 0 ≤ s.dividend / 256 * 256 + v by omega), (show s.dividend / 256 * 256 + v ≤ 65535 by omega), q0, q1, p0, p1, d9, l9, a0, a1, b0, b1, cc0, cc1, e0, e1, g0, g1, hh0, hh1⟩
  rw [if_neg h5]
  by_cases h6 : p = 16901
  · rw [if_pos h6]
    exact ⟨⟨n0, n1, c0, c1, d0, d1, l0, l1⟩, f0, f1, o0, o1, (show 0 ≤ s.dividend % 256 + v * 256 by omega), (show s.dividend % 256 + v * 256 ≤ 65535 by omega), q0, q1, p0, p1, d9, l9, a0, a1, b0, b1, cc0, cc1, e0, e1, g0, g1, hh0, hh1⟩
  rw [if_neg h6]
  by_cases h7 : p = 16902
  · rw [if_pos h7]
    have z0 : 0 ≤ (if v = 0 then (65535 : Int) else s.dividend / v) ∧ (if v = 0 then (65535 : Int) else s.dividend / v) ≤ 65535 := by split <;> omega
    have z1 : 0 ≤ (if v = 0 then s.dividend else s.dividend % v) ∧ (if v = 0 then s.dividend else s.dividend % v) ≤ 65535 := by
      by_cases hv : v = 0
      · rw [if_pos hv]; omega
      · rw [if_neg hv]; have := hr hv; omega
    exact ⟨⟨n0, n1, c0, c1, d0, d1, l0, l1⟩, f0, f1, o0, o1, w0, w1, z0.1, z0.2, z1.1, z1.2, d9, l9, a0, a1, b0, b1, cc0, cc1, e0, e1, g0, g1, hh0, hh1⟩
  rw [if_neg h7]
  by_cases h8 : p = 16903
  · rw [if_pos h8]
    exact ⟨⟨n0, n1, c0, c1, (show 0 ≤ s.dot / 256 * 256 + v by omega), (show s.dot / 256 * 256 + v ≤ 65535 by omega), l0, l1⟩, f0, f1, o0, o1, w0, w1, q0, q1, p0, p1, (show s.dot / 256 * 256 + v ≤ 511 by omega), l9, a0, a1, b0, b1, cc0, cc1, e0, e1, g0, g1, hh0, hh1⟩
  rw [if_neg h8]
  by_cases h9 : p = 16904
  · rw [if_pos h9]
    exact ⟨⟨n0, n1, c0, c1, (show 0 ≤ s.dot % 256 + v % 2 * 256 by omega), (show s.dot % 256 + v % 2 * 256 ≤ 65535 by omega), l0, l1⟩, f0, f1, o0, o1, w0, w1, q0, q1, p0, p1, (show s.dot % 256 + v % 2 * 256 ≤ 511 by omega), l9, a0, a1, b0, b1, cc0, cc1, e0, e1, g0, g1, hh0, hh1⟩
  rw [if_neg h9]
  by_cases h10 : p = 16905
  · rw [if_pos h10]
    exact ⟨⟨n0, n1, c0, c1, d0, d1, (show 0 ≤ s.line / 256 * 256 + v by omega), (show s.line / 256 * 256 + v ≤ 65535 by omega)⟩, f0, f1, o0, o1, w0, w1, q0, q1, p0, p1, d9, (show s.line / 256 * 256 + v ≤ 511 by omega), a0, a1, b0, b1, cc0, cc1, e0, e1, g0, g1, hh0, hh1⟩
  rw [if_neg h10]
  by_cases h11 : p = 16906
  · rw [if_pos h11]
    exact ⟨⟨n0, n1, c0, c1, d0, d1, (show 0 ≤ s.line % 256 + v % 2 * 256 by omega), (show s.line % 256 + v % 2 * 256 ≤ 65535 by omega)⟩, f0, f1, o0, o1, w0, w1, q0, q1, p0, p1, d9, (show s.line % 256 + v % 2 * 256 ≤ 511 by omega), a0, a1, b0, b1, cc0, cc1, e0, e1, g0, g1, hh0, hh1⟩
  rw [if_neg h11]
  by_cases h12 : p = 16909
  · rw [if_pos h12]
    exact ⟨⟨n0, n1, c0, c1, d0, d1, l0, l1⟩, f0, f1, o0, o1, w0, w1, q0, q1, p0, p1, d9, l9, a0, a1, b0, b1, cc0, cc1, e0, e1, g0, g1, hh0, hh1⟩
  rw [if_neg h12]
  exact ⟨⟨n0, n1, c0, c1, d0, d1, l0, l1⟩, f0, f1, o0, o1, w0, w1, q0, q1, p0, p1, d9, l9, a0, a1, b0, b1, cc0, cc1, e0, e1, g0, g1, hh0, hh1⟩
end
end Go.Proofs.YtniagcbajjmopaaGreat
