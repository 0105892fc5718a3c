/- The pads. What writes do. The pads, read. -/
import Derived.Test.YtniagcbajjmopaaGreatPortsF
namespace Go.Proofs.YtniagcbajjmopaaGreat
open Go.RowKit
set_option linter.unusedVariables false
set_option linter.unusedSimpArgs false
set_option maxRecDepth 100000
theorem or_one (x : Int) (h0 : 0 ≤ x) (h1 : x ≤ 65535) : bits .or .u16 (x * 2 % 65536) 1 = x * 2 % 65536 + 1 := by
  have := u16_or_nat (x * 2 % 65536).toNat 1 (by omega) (by omega)
  rw [Int.toNat_of_nonneg (by omega)] at this
  have e : (x * 2 % 65536).toNat ||| 1 = 2 * (x % 32768).toNat + 1 := by
    have h := (Nat.two_pow_add_eq_or_of_lt (i := 1) (b := 1) (by omega) (x % 32768).toNat)
    rw [show (x * 2 % 65536).toNat = 2 ^ 1 * (x % 32768).toNat by omega, ← h]
  rw [e] at this
  rw [show ((1 : Nat) : Int) = 1 from rfl] at this
  rw [this]; omega
def padA (o b : Int) : Int := bits .or .u8 (bits .andNot .u8 o 3) b
def padB (o b : Int) : Int := bits .or .u8 (bits .or .u8 (bits .and .u8 o 224) 28) b
theorem padA_is (o b : Int) (o0 : 0 ≤ o) (o1 : o ≤ 255) (hb : b = 0 ∨ b = 1) : 0 ≤ padA o b ∧ padA o b ≤ 255 ∧ bits .and .u8 (padA o b) 1 = b ∧ padA o b / 4 = o / 4 := by
  rcases hb with rfl | rfl
  · exact byte_fact (P := fun o => 0 ≤ padA o 0 ∧ padA o 0 ≤ 255 ∧ bits .and .u8 (padA o 0) 1 = 0 ∧ padA o 0 / 4 = o / 4) (by decide +kernel) o o0 o1
  · exact byte_fact (P := fun o => 0 ≤ padA o 1 ∧ padA o 1 ≤ 255 ∧ bits .and .u8 (padA o 1) 1 = 1 ∧ padA o 1 / 4 = o / 4) (by decide +kernel) o o0 o1
theorem padB_is (o b : Int) (o0 : 0 ≤ o) (o1 : o ≤ 255) (hb : b = 0 ∨ b = 1) : 0 ≤ padB o b ∧ padB o b ≤ 255 ∧ bits .and .u8 (padB o b) 1 = b ∧ padB o b / 32 = o / 32 ∧ bits .and .u8 (padB o b) 30 = 28 := by
  rcases hb with rfl | rfl
  · exact byte_fact (P := fun o => 0 ≤ padB o 0 ∧ padB o 0 ≤ 255 ∧ bits .and .u8 (padB o 0) 1 = 0 ∧ padB o 0 / 32 = o / 32 ∧ bits .and .u8 (padB o 0) 30 = 28) (by decide +kernel) o o0 o1
  · exact byte_fact (P := fun o => 0 ≤ padB o 1 ∧ padB o 1 ≤ 255 ∧ bits .and .u8 (padB o 1) 1 = 1 ∧ padB o 1 / 32 = o / 32 ∧ bits .and .u8 (padB o 1) 30 = 28) (by decide +kernel) o o0 o1
section
variable {w : World} {g : Nat} {s : Pt}
set_option maxHeartbeats 1000000 in
theorem pad_0 (A : Po w g s) (v : Int) : Calls Tryz.prog 9 #[poP g, .int .i64 0, .int .u16 v] w (PW w g { s with say0 := v } (.int .i64 0)) := by
  have c : w.cell? ⟨g, 13, none⟩ = some (.int .u16 s.say0) := A.cell 13
  have fr := A.frozen 13
  have a2 : Po (w.setCell ⟨g, 13, none⟩ (.int .u16 v)) g { s with say0 := v } := A.set_ 13 _
  have A2 := Lib.hid a2
  clear A a2
  go_enter Tryz.func9, Tryz.ntmps9
  go_wp2_with fail
  go_ret
  exact ⟨rfl, A2.out, (Upd.refl _ _).set _ _⟩
set_option maxHeartbeats 1000000 in
theorem next_held_0 (A : Po w g s) (h : s.held = true) : Calls Tryz.prog 45 #[poP g, .int .i64 0] w (Says w (.int .u8 (s.say0 / 32768 % 256))) := by
  have c : w.cell? ⟨g, 13, none⟩ = some (.int .u16 s.say0) := A.cell 13
  have c19 : w.cell? ⟨g, 19, none⟩ = some (.bool s.held) := A.cell 19
  rw [h] at c19
  clear A h
  go_enter Tryz.func45, Tryz.ntmps45
  go_wp2_with fail
  go_ret
  exact ⟨rfl, Below.refl _ _⟩
set_option maxHeartbeats 2000000 in
theorem next_0 (A : Po w g s) (h : s.held = false) (s0 : 0 ≤ s.shift0) (s1 : s.shift0 ≤ 65535) :
    Calls Tryz.prog 45 #[poP g, .int .i64 0] w (PW w g { s with shift0 := s.shift0 * 2 % 65536 + 1 } (.int .u8 (s.shift0 / 32768))) := by
  have c : w.cell? ⟨g, 17, none⟩ = some (.int .u16 s.shift0) := A.cell 17
  have c19 : w.cell? ⟨g, 19, none⟩ = some (.bool s.held) := A.cell 19
  rw [h] at c19
  have fr := A.frozen 17
  have hlt := A.lt
  have a2 : Po (w.setCell ⟨g, 17, none⟩ (.int .u16 (s.shift0 * 2 % 65536 + 1))) g { s with shift0 := s.shift0 * 2 % 65536 + 1 } := A.set_ 17 _
  have A2 := Lib.hid a2
  have ho := or_one s.shift0 s0 s1
  have hq : s.shift0 / 32768 % 256 = s.shift0 / 32768 := by omega
  obtain ⟨z, hz⟩ : ∃ z, s.shift0 = z := ⟨_, rfl⟩
  rw [hz] at c s0 s1 A2 ho hq ⊢
  clear A a2 h hz
  go_enter Tryz.func45, Tryz.ntmps45
  go_upto_region 4 with (fail)
  go_cut [] from 26 to 38 (fun wx => wx = (w.setCell ⟨g, 17, none⟩ (.int .u16 (z * 2 % 65536 + 1))).drew)
  case first =>
    go_region_with (fail)
    all_goals
      go_wp2_with fail
      go_meet
      first | rfl | rw [IntKind.wrap_u16, ho]
  case rest =>
    subst hcut
    go_wp2_with fail
    go_ret
    exact ⟨rfl, A2.out, ((Upd.refl _ _).set _ _).drew⟩
set_option maxHeartbeats 1000000 in
theorem pad_1 (A : Po w g s) (v : Int) : Calls Tryz.prog 9 #[poP g, .int .i64 1, .int .u16 v] w (PW w g { s with say1 := v } (.int .i64 0)) := by
  have c : w.cell? ⟨g, 14, none⟩ = some (.int .u16 s.say1) := A.cell 14
  have fr := A.frozen 14
  have a2 : Po (w.setCell ⟨g, 14, none⟩ (.int .u16 v)) g { s with say1 := v } := A.set_ 14 _
  have A2 := Lib.hid a2
  clear A a2
  go_enter Tryz.func9, Tryz.ntmps9
  go_wp2_with fail
  go_ret
  exact ⟨rfl, A2.out, (Upd.refl _ _).set _ _⟩
set_option maxHeartbeats 1000000 in
theorem next_held_1 (A : Po w g s) (h : s.held = true) : Calls Tryz.prog 45 #[poP g, .int .i64 1] w (Says w (.int .u8 (s.say1 / 32768 % 256))) := by
  have c : w.cell? ⟨g, 14, none⟩ = some (.int .u16 s.say1) := A.cell 14
  have c19 : w.cell? ⟨g, 19, none⟩ = some (.bool s.held) := A.cell 19
  rw [h] at c19
  clear A h
  go_enter Tryz.func45, Tryz.ntmps45
  go_wp2_with fail
  go_ret
  exact ⟨rfl, Below.refl _ _⟩
set_option maxHeartbeats 2000000 in
theorem next_1 (A : Po w g s) (h : s.held = false) (s0 : 0 ≤ s.shift1) (s1 : s.shift1 ≤ 65535) :
    Calls Tryz.prog 45 #[poP g, .int .i64 1] w (PW w g { s with shift1 := s.shift1 * 2 % 65536 + 1 } (.int .u8 (s.shift1 / 32768))) := by
  have c : w.cell? ⟨g, 18, none⟩ = some (.int .u16 s.shift1) := A.cell 18
  have c19 : w.cell? ⟨g, 19, none⟩ = some (.bool s.held) := A.cell 19
  rw [h] at c19
  have fr := A.frozen 18
  have hlt := A.lt
  have a2 : Po (w.setCell ⟨g, 18, none⟩ (.int .u16 (s.shift1 * 2 % 65536 + 1))) g { s with shift1 := s.shift1 * 2 % 65536 + 1 } := A.set_ 18 _
  have A2 := Lib.hid a2
  have ho := or_one s.shift1 s0 s1
  have hq : s.shift1 / 32768 % 256 = s.shift1 / 32768 := by omega
  obtain ⟨z, hz⟩ : ∃ z, s.shift1 = z := ⟨_, rfl⟩
  rw [hz] at c s0 s1 A2 ho hq ⊢
  clear A a2 h hz
  go_enter Tryz.func45, Tryz.ntmps45
  go_upto_region 4 with (fail)
  go_cut [] from 26 to 38 (fun wx => wx = (w.setCell ⟨g, 18, none⟩ (.int .u16 (z * 2 % 65536 + 1))).drew)
  case first =>
    go_region_with (fail)
    all_goals
      go_wp2_with fail
      go_meet
      first | rfl | rw [IntKind.wrap_u16, ho]
  case rest =>
    subst hcut
    go_wp2_with fail
    go_ret
    exact ⟨rfl, A2.out, ((Upd.refl _ _).set _ _).drew⟩
set_option maxHeartbeats 1000000 in
theorem hold_one (A : Po w g s) : Calls Tryz.prog 22 #[poP g, .int .u8 1] w (PW w g { s with held := true, shift0 := s.say0, shift1 := s.say1 } (.tuple #[])) := by
  have c19 : w.cell? ⟨g, 19, none⟩ = some (.bool s.held) := A.cell 19
  have f19 := A.frozen 19
  have a1 := A.set_ 19 (.bool true)
  have d19 : (w.setCell ⟨g, 19, none⟩ (.bool true)).cell? ⟨g, 19, none⟩ = some (.bool true) := a1.cell 19
  have d13 : (w.setCell ⟨g, 19, none⟩ (.bool true)).cell? ⟨g, 13, none⟩ = some (.int .u16 s.say0) := a1.cell 13
  have d14 : (w.setCell ⟨g, 19, none⟩ (.bool true)).cell? ⟨g, 14, none⟩ = some (.int .u16 s.say1) := a1.cell 14
  have d17 : (w.setCell ⟨g, 19, none⟩ (.bool true)).cell? ⟨g, 17, none⟩ = some (.int .u16 s.shift0) := a1.cell 17
  have d18 : (w.setCell ⟨g, 19, none⟩ (.bool true)).cell? ⟨g, 18, none⟩ = some (.int .u16 s.shift1) := a1.cell 18
  have f17 := a1.frozen 17
  have f18 := a1.frozen 18
  have z1 : (bits .and .u8 1 1 != 0) = true := by decide +kernel
  obtain ⟨W1, hW⟩ : ∃ W1, W1 = w.setCell ⟨g, 19, none⟩ (.bool true) := ⟨_, rfl⟩
  have A1 := Lib.hid a1
  have HW := Lib.hid hW
  rw [← hW] at d13 d14 d17 d18 d19 f17 f18 A1
  clear A a1 hW
  go_enter Tryz.func22, Tryz.ntmps22
  go_upto_region 1 with (fail)
  rw [← HW.out]
  go_wp2_with fail
  try go_region_with (fail)
  all_goals
    go_wp2_with fail
    go_end0
    refine ⟨rfl, (A1.out.set_ 17 (.int .u16 s.say0)).set_ 18 (.int .u16 s.say1), ?_⟩
    have u1 : Upd w g W1 := by rw [HW.out]; exact (Upd.refl _ _).set _ _
    first
      | exact ((u1.set 17 (.int .u16 s.say0)).set 18 (.int .u16 s.say1)).drew
      | exact ((u1.set 17 (.int .u16 s.say0)).set 18 (.int .u16 s.say1))
set_option maxHeartbeats 1000000 in
theorem hold_zero (A : Po w g s) : Calls Tryz.prog 22 #[poP g, .int .u8 0] w (PW w g { s with held := false } (.tuple #[])) := by
  have c19 : w.cell? ⟨g, 19, none⟩ = some (.bool s.held) := A.cell 19
  have f19 := A.frozen 19
  have a1 := A.set_ 19 (.bool false)
  have d19 : (w.setCell ⟨g, 19, none⟩ (.bool false)).cell? ⟨g, 19, none⟩ = some (.bool false) := a1.cell 19
  have z1 : (bits .and .u8 0 1 != 0) = false := by decide +kernel
  have A1 := Lib.hid a1
  clear A a1
  go_enter Tryz.func22, Tryz.ntmps22
  go_wp2_with fail
  go_end0
  exact ⟨rfl, A1.out, (Upd.refl _ _).set _ _⟩
end
end Go.Proofs.YtniagcbajjmopaaGreat

namespace Go.Proofs.YtniagcbajjmopaaGreat
open Go.RowKit
set_option linter.unusedVariables false
set_option linter.unusedSimpArgs false
set_option maxRecDepth 100000
section
variable {w : World} {g : Nat} {s : Pt}
set_option maxHeartbeats 2000000 in
theorem write_hold1 (A : Po w g s)  :
    Calls Tryz.prog 5 #[poP g, .int .u16 16406, .int .u8 1] w (PW w g { s with soon := 0, held := true, shift0 := s.say0, shift1 := s.say1 } (.bool true)) := by
  have CL := Lib.hid (fun (w' : World) (b : Nat) (a : Po w' g { s with soon := 0 }) (cb : w'.cell? ⟨b, 0, none⟩ = some (poP g)) => hold_one (s := { s with soon := 0 }) a)
  obtain ⟨W1, hW⟩ : ∃ W1, W1 = w.alloc (.cells #[poP g] 23) := ⟨_, rfl⟩
  obtain ⟨B, hB⟩ : ∃ B, B = w.heap.size := ⟨_, rfl⟩
  have a1 : Po W1 g s := by rw [hW]; exact A.alloc _
  have cb : W1.cell? ⟨B, 0, none⟩ = some (poP g) := by rw [hW, hB]; exact (Blk.new _ _ _).cell 0
  have c22 : W1.cell? ⟨g, 22, none⟩ = some (.int .i64 s.soon) := a1.cell 22
  have f22 := a1.frozen 22
  have hlt := A.lt
  have gB : B ≠ g := by omega
  have hb : Below w.heap.size w W1 := by rw [hW]; exact belowA (Below.refl _ _) _
  have a2 : Po (W1.setCell ⟨g, 22, none⟩ (.int .i64 0)) g { s with soon := 0 } := a1.set_ 22 _
  have cb2 : (W1.setCell ⟨g, 22, none⟩ (.int .i64 0)).cell? ⟨B, 0, none⟩ = some (poP g) := keepSet cb gB
  have A2 := Lib.hid a2
  have CB2 := Lib.hid cb2
  have U2 := Lib.hid ((Upd.ofBelow hb g).set 22 (.int .i64 0))
  have HW := Lib.hid hW
  have HB := Lib.hid hB
  clear a1 a2 hb A hW hB
  go_enter Tryz.func5, Tryz.ntmps5
  go_upto_region 4 with (fail)
  rw [← HW.out, ← HB.out]
  go_wp2_with fail
  refine (CL.out _ B A2.out CB2.out).mono ?_
  rintro e w3 ⟨rfl, a3, u3⟩
  have A3 := Lib.hid a3
  have U3 := Lib.hid (U2.out.trans u3)
  clear a3 u3
  go_wp2_with fail
  go_ret
  exact ⟨rfl, A3.out, U3.out⟩
set_option maxHeartbeats 2000000 in
theorem write_hold0 (A : Po w g s)  :
    Calls Tryz.prog 5 #[poP g, .int .u16 16406, .int .u8 0] w (PW w g { s with soon := 0, held := false } (.bool true)) := by
  have CL := Lib.hid (fun (w' : World) (b : Nat) (a : Po w' g { s with soon := 0 }) (cb : w'.cell? ⟨b, 0, none⟩ = some (poP g)) => hold_zero (s := { s with soon := 0 }) a)
  obtain ⟨W1, hW⟩ : ∃ W1, W1 = w.alloc (.cells #[poP g] 23) := ⟨_, rfl⟩
  obtain ⟨B, hB⟩ : ∃ B, B = w.heap.size := ⟨_, rfl⟩
  have a1 : Po W1 g s := by rw [hW]; exact A.alloc _
  have cb : W1.cell? ⟨B, 0, none⟩ = some (poP g) := by rw [hW, hB]; exact (Blk.new _ _ _).cell 0
  have c22 : W1.cell? ⟨g, 22, none⟩ = some (.int .i64 s.soon) := a1.cell 22
  have f22 := a1.frozen 22
  have hlt := A.lt
  have gB : B ≠ g := by omega
  have hb : Below w.heap.size w W1 := by rw [hW]; exact belowA (Below.refl _ _) _
  have a2 : Po (W1.setCell ⟨g, 22, none⟩ (.int .i64 0)) g { s with soon := 0 } := a1.set_ 22 _
  have cb2 : (W1.setCell ⟨g, 22, none⟩ (.int .i64 0)).cell? ⟨B, 0, none⟩ = some (poP g) := keepSet cb gB
  have A2 := Lib.hid a2
  have CB2 := Lib.hid cb2
  have U2 := Lib.hid ((Upd.ofBelow hb g).set 22 (.int .i64 0))
  have HW := Lib.hid hW
  have HB := Lib.hid hB
  clear a1 a2 hb A hW hB
  go_enter Tryz.func5, Tryz.ntmps5
  go_upto_region 4 with (fail)
  rw [← HW.out, ← HB.out]
  go_wp2_with fail
  refine (CL.out _ B A2.out CB2.out).mono ?_
  rintro e w3 ⟨rfl, a3, u3⟩
  have A3 := Lib.hid a3
  have U3 := Lib.hid (U2.out.trans u3)
  clear a3 u3
  go_wp2_with fail
  go_ret
  exact ⟨rfl, A3.out, U3.out⟩
end
end Go.Proofs.YtniagcbajjmopaaGreat

namespace Go.Proofs.YtniagcbajjmopaaGreat
open Go.RowKit
set_option linter.unusedVariables false
set_option linter.unusedSimpArgs false
set_option maxRecDepth 100000
section
variable {w : World} {g : Nat} {s : Pt}
set_option maxHeartbeats 1000000 in
theorem readHeld_0 (A : Po w g s) (h : s.held = true) (o : Int) :
    Calls Tryz.prog 8 #[poP g, .int .u16 16406, .int .u8 o] w (Says w (.tuple #[.int .u8 (padA o (s.say0 / 32768 % 256)), .bool true])) := by
  have NX := Lib.hid (next_held_0 A h)
  obtain ⟨b, hb⟩ : ∃ b, s.say0 / 32768 % 256 = b := ⟨_, rfl⟩
  rw [hb] at NX ⊢
  have hp : padA o b = padA o b := rfl
  conv at hp => lhs; unfold padA
  have HP := Lib.hid hp
  clear A h hb hp
  go_enter Tryz.func8, Tryz.ntmps8
  go_wp2_with fail
  refine NX.out.mono ?_
  rintro e w1 ⟨rfl, hb1⟩
  go_wp2_with fail
  go_ret2
  exact ⟨by rw [← HP.out]; rfl, hb1⟩
set_option maxHeartbeats 1000000 in
theorem read_0 (A : Po w g s) (h : s.held = false) (s0 : 0 ≤ s.shift0) (s1 : s.shift0 ≤ 65535) (o : Int) :
    Calls Tryz.prog 8 #[poP g, .int .u16 16406, .int .u8 o] w (PW w g { s with shift0 := s.shift0 * 2 % 65536 + 1 } (.tuple #[.int .u8 (padA o (s.shift0 / 32768)), .bool true])) := by
  have NX := Lib.hid (next_0 A h s0 s1)
  obtain ⟨b, hb⟩ : ∃ b, s.shift0 / 32768 = b := ⟨_, rfl⟩
  rw [hb] at NX ⊢
  have hp : padA o b = padA o b := rfl
  conv at hp => lhs; unfold padA
  have HP := Lib.hid hp
  clear A h hb hp
  go_enter Tryz.func8, Tryz.ntmps8
  go_wp2_with fail
  refine NX.out.mono ?_
  rintro e w1 ⟨rfl, a1, u1⟩
  have A1 := Lib.hid a1
  have U1 := Lib.hid u1
  clear a1 u1
  go_wp2_with fail
  go_ret2
  exact ⟨by rw [← HP.out]; rfl, A1.out, U1.out⟩
set_option maxHeartbeats 1000000 in
theorem readHeld_1 (A : Po w g s) (h : s.held = true) (o : Int) :
    Calls Tryz.prog 8 #[poP g, .int .u16 16407, .int .u8 o] w (Says w (.tuple #[.int .u8 (padB o (s.say1 / 32768 % 256)), .bool true])) := by
  have NX := Lib.hid (next_held_1 A h)
  obtain ⟨b, hb⟩ : ∃ b, s.say1 / 32768 % 256 = b := ⟨_, rfl⟩
  rw [hb] at NX ⊢
  have hp : padB o b = padB o b := rfl
  conv at hp => lhs; unfold padB
  have HP := Lib.hid hp
  clear A h hb hp
  go_enter Tryz.func8, Tryz.ntmps8
  go_wp2_with fail
  refine NX.out.mono ?_
  rintro e w1 ⟨rfl, hb1⟩
  go_wp2_with fail
  go_ret2
  exact ⟨by rw [← HP.out]; rfl, hb1⟩
set_option maxHeartbeats 1000000 in
theorem read_1 (A : Po w g s) (h : s.held = false) (s0 : 0 ≤ s.shift1) (s1 : s.shift1 ≤ 65535) (o : Int) :
    Calls Tryz.prog 8 #[poP g, .int .u16 16407, .int .u8 o] w (PW w g { s with shift1 := s.shift1 * 2 % 65536 + 1 } (.tuple #[.int .u8 (padB o (s.shift1 / 32768)), .bool true])) := by
  have NX := Lib.hid (next_1 A h s0 s1)
  obtain ⟨b, hb⟩ : ∃ b, s.shift1 / 32768 = b := ⟨_, rfl⟩
  rw [hb] at NX ⊢
  have hp : padB o b = padB o b := rfl
  conv at hp => lhs; unfold padB
  have HP := Lib.hid hp
  clear A h hb hp
  go_enter Tryz.func8, Tryz.ntmps8
  go_wp2_with fail
  refine NX.out.mono ?_
  rintro e w1 ⟨rfl, a1, u1⟩
  have A1 := Lib.hid a1
  have U1 := Lib.hid u1
  clear a1 u1
  go_wp2_with fail
  go_ret2
  exact ⟨by rw [← HP.out]; rfl, A1.out, U1.out⟩
end
/-- What is left of a word after i reads. -/
def shl (v : Int) (i : Nat) : Int := (v * 2 ^ i + (2 ^ i - 1)) % 65536
def wantB (v : Int) (i : Nat) : Int := if i < 16 then v / 2 ^ (15 - i) % 2 else 1
theorem upto20 {P : Nat → Prop} (h : ∀ i : Fin 21, P i.val) (i : Nat) (hi : i ≤ 20) : P i := h ⟨i, by omega⟩
theorem shl_rng (v : Int) (i : Nat) : 0 ≤ shl v i ∧ shl v i ≤ 65535 := by unfold shl; omega
theorem shl_next (v : Int) (i : Nat) : shl v i * 2 % 65536 + 1 = shl v (i + 1) := by
  unfold shl
  obtain ⟨p, hp⟩ : ∃ p : Int, 2 ^ i = p := ⟨_, rfl⟩
  rw [show (2 : Int) ^ (i + 1) = 2 ^ i * 2 from Int.pow_succ 2 i, hp]
  obtain ⟨q, hq⟩ : ∃ q, v * p = q := ⟨_, rfl⟩
  rw [← Int.mul_assoc, hq]
  omega
theorem shl_bit (v : Int) (v0 : 0 ≤ v) (v1 : v ≤ 65535) (i : Nat) (hi : i ≤ 20) : shl v i / 32768 = wantB v i := by
  have hh : i = 0 ∨ i = 1 ∨ i = 2 ∨ i = 3 ∨ i = 4 ∨ i = 5 ∨ i = 6 ∨ i = 7 ∨ i = 8 ∨ i = 9 ∨ i = 10 ∨ i = 11 ∨ i = 12 ∨ i = 13 ∨ i = 14 ∨ i = 15 ∨ i = 16 ∨ i = 17 ∨ i = 18 ∨ i = 19 ∨ i = 20 := by omega
  rcases hh with rfl | rfl | rfl | rfl | rfl | rfl | rfl | rfl | rfl | rfl | rfl | rfl | rfl | rfl | rfl | rfl | rfl | rfl | rfl | rfl | rfl
  all_goals
    simp [shl, wantB]
    try omega
theorem wantB_is (v : Int) (i : Nat) : wantB v i = 0 ∨ wantB v i = 1 := by
  unfold wantB; split <;> omega
end Go.Proofs.YtniagcbajjmopaaGreat
