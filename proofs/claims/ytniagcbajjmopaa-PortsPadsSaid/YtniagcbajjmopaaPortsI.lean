/- The pads, read. -/
import Derived.Test.YtniagcbajjmopaaPortsH
namespace Go.Proofs.Ytniagcbajjmopaa
open Go.RowKit
set_option linter.unusedVariables false
set_option linter.unusedSimpArgs false
set_option maxRecDepth 100000
section
variable {w : World} {g : Nat} {s : Pt}
set_option maxHeartbeats 1000000 in
theorem readHeld_0 (A : Po w g s) (h : s.held = true) (o : Int) :
    Calls Try.prog 16 #[poP g, .int .u16 16406, .int .u8 o] w (Says w (.tuple #[.int .u8 (padA o (s.say0 / 32768 % 256)), .bool true])) := by
  have NX := Lib.hid (next_held_0 A h)
  obtain ⟨b, hb⟩ : ∃ b, s.say0 / 32768 % 256 = b := ⟨_, rfl⟩
  rw [hb] at NX ⊢
  have hp : padA o b = padA o b := rfl
  conv at hp => lhs; unfold padA
  have HP := Lib.hid hp
  clear A h hb hp
  go_enter Try.func16, Try.ntmps16
  go_wp2_with fail
  refine NX.out.mono ?_
  rintro e w1 ⟨rfl, hb1⟩
  go_wp2_with fail
  go_ret2
  exact ⟨by rw [← HP.out]; rfl, hb1⟩
set_option maxHeartbeats 1000000 in
theorem read_0 (A : Po w g s) (h : s.held = false) (s0 : 0 ≤ s.shift0) (s1 : s.shift0 ≤ 65535) (o : Int) :
    Calls Try.prog 16 #[poP g, .int .u16 16406, .int .u8 o] w (PW w g { s with shift0 := s.shift0 * 2 % 65536 + 1 } (.tuple #[.int .u8 (padA o (s.shift0 / 32768)), .bool true])) := by
  have NX := Lib.hid (next_0 A h s0 s1)
  obtain ⟨b, hb⟩ : ∃ b, s.shift0 / 32768 = b := ⟨_, rfl⟩
  rw [hb] at NX ⊢
  have hp : padA o b = padA o b := rfl
  conv at hp => lhs; unfold padA
  have HP := Lib.hid hp
  clear A h hb hp
  go_enter Try.func16, Try.ntmps16
  go_wp2_with fail
  refine NX.out.mono ?_
  rintro e w1 ⟨rfl, a1, u1⟩
  have A1 := Lib.hid a1
  have U1 := Lib.hid u1
  clear a1 u1
  go_wp2_with fail
  go_ret2
  exact ⟨by rw [← HP.out]; rfl, A1.out, U1.out⟩
set_option maxHeartbeats 1000000 in
theorem readHeld_1 (A : Po w g s) (h : s.held = true) (o : Int) :
    Calls Try.prog 16 #[poP g, .int .u16 16407, .int .u8 o] w (Says w (.tuple #[.int .u8 (padB o (s.say1 / 32768 % 256)), .bool true])) := by
  have NX := Lib.hid (next_held_1 A h)
  obtain ⟨b, hb⟩ : ∃ b, s.say1 / 32768 % 256 = b := ⟨_, rfl⟩
  rw [hb] at NX ⊢
  have hp : padB o b = padB o b := rfl
  conv at hp => lhs; unfold padB
  have HP := Lib.hid hp
  clear A h hb hp
  go_enter Try.func16, Try.ntmps16
  go_wp2_with fail
  refine NX.out.mono ?_
  rintro e w1 ⟨rfl, hb1⟩
  go_wp2_with fail
  go_ret2
  exact ⟨by rw [← HP.out]; rfl, hb1⟩
set_option maxHeartbeats 1000000 in
theorem read_1 (A : Po w g s) (h : s.held = false) (s0 : 0 ≤ s.shift1) (s1 : s.shift1 ≤ 65535) (o : Int) :
    Calls Try.prog 16 #[poP g, .int .u16 16407, .int .u8 o] w (PW w g { s with shift1 := s.shift1 * 2 % 65536 + 1 } (.tuple #[.int .u8 (padB o (s.shift1 / 32768)), .bool true])) := by
  have NX := Lib.hid (next_1 A h s0 s1)
  obtain ⟨b, hb⟩ : ∃ b, s.shift1 / 32768 = b := ⟨_, rfl⟩
  rw [hb] at NX ⊢
  have hp : padB o b = padB o b := rfl
  conv at hp => lhs; unfold padB
  have HP := Lib.hid hp
  clear A h hb hp
  go_enter Try.func16, Try.ntmps16
  go_wp2_with fail
  refine NX.out.mono ?_
  rintro e w1 ⟨rfl, a1, u1⟩
  have A1 := Lib.hid a1
  have U1 := Lib.hid u1
  clear a1 u1
  go_wp2_with fail
  go_ret2
  exact ⟨by rw [← HP.out]; rfl, A1.out, U1.out⟩
end
/-- What is left of a word after i reads. -/
def shl (v : Int) (i : Nat) : Int := (v * 2 ^ i + (2 ^ i - 1)) % 65536
def wantB (v : Int) (i : Nat) : Int := if i < 16 then v / 2 ^ (15 - i) % 2 else 1
theorem upto20 {P : Nat → Prop} (h : ∀ i : Fin 21, P i.val) (i : Nat) (hi : i ≤ 20) : P i := h ⟨i, by omega⟩
theorem shl_rng (v : Int) (i : Nat) : 0 ≤ shl v i ∧ shl v i ≤ 65535 := by unfold shl; omega
theorem shl_next (v : Int) (i : Nat) : shl v i * 2 % 65536 + 1 = shl v (i + 1) := by
  unfold shl
  obtain ⟨p, hp⟩ : ∃ p : Int, 2 ^ i = p := ⟨_, rfl⟩
  rw [show (2 : Int) ^ (i + 1) = 2 ^ i * 2 from Int.pow_succ 2 i, hp]
  obtain ⟨q, hq⟩ : ∃ q, v * p = q := ⟨_, rfl⟩
  rw [← Int.mul_assoc, hq]
  omega
theorem shl_bit (v : Int) (v0 : 0 ≤ v) (v1 : v ≤ 65535) (i : Nat) (hi : i ≤ 20) : shl v i / 32768 = wantB v i := by
  have hh : i = 0 ∨ i = 1 ∨ i = 2 ∨ i = 3 ∨ i = 4 ∨ i = 5 ∨ i = 6 ∨ i = 7 ∨ i = 8 ∨ i = 9 ∨ i = 10 ∨ i = 11 ∨ i = 12 ∨ i = 13 ∨ i = 14 ∨ i = 15 ∨ i = 16 ∨ i = 17 ∨ i = 18 ∨ i = 19 ∨ i = 20 := by omega
  rcases hh with rfl | rfl | rfl | rfl | rfl | rfl | rfl | rfl | rfl | rfl | rfl | rfl | rfl | rfl | rfl | rfl | rfl | rfl | rfl | rfl | rfl
  all_goals
    simp [shl, wantB]
    try omega
theorem wantB_is (v : Int) (i : Nat) : wantB v i = 0 ∨ wantB v i = 1 := by
  unfold wantB; split <;> omega
end Go.Proofs.Ytniagcbajjmopaa
