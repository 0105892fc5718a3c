/- Decode at the layouts Hi and ExHi. -/
import Derived.Test.YtbfpacngphjkcaaBoardB
namespace Go.Proofs.Ytbfpacngphjkcaa
open Go.RowKit
set_option linter.unusedVariables false
set_option linter.unusedSimpArgs false

set_option maxRecDepth 100000 in
set_option maxHeartbeats 2000000 in
theorem dec_H1 (x b p lay : Int) (gb gr gm ga gc n cap r : Nat) (w : World) (C : Hid (Cells w lay gb gr gm ga gc n cap r)) (x0 : 0 ≤ x) (x1 : x ≤ 4294967295) (hb : x / 65536 % 256 = b) (hp : x % 65536 = p) (n1 : (b == 126) = false) (n2 : (b == 127) = false) (hl : lay ≠ 1) (ha : hiRam b p = true) (hr : 0 < r) (hrm : r ≤ 524288) (hge : 24576 ≤ p) :
    Calls Try.prog 19 #[.pointer (some ⟨gb, 0, none⟩), .int .u32 x] w fun e w' => e = .returned (.agg #[.int .u8 2, .int .i64 ((b % 32 * 8192 + p - 24576) % r)]) ∧ Below w.heap.size w w' := by
  have b0 : 0 ≤ b ∧ b ≤ 255 := by omega
  have p0 : 0 ≤ p ∧ p ≤ 65535 := by omega
  obtain ⟨b0, b1⟩ := b0
  obtain ⟨p0, p1⟩ := p0
  have e1 := and255u (x / 65536) (by omega) (by omega)
  have e2 := and65535u x x0 x1
  rw [hb] at e1
  rw [hp] at e2
  clear hb hp
  have k0 := C.out.b0
  have k1 := C.out.b1
  have k2 := C.out.b2
  have l0 := World.block_lt_of_cell? _ _ k0
  have q0 := C.out.r0
  have q1 := C.out.r1
  have q2 := C.out.r2
  have q3 := C.out.r3
  have q4 := C.out.r4
  have q5 := C.out.r5
  have l1 := World.block_lt_of_cell? _ _ q0
  dsimp only at l0 l1
  simp only [hl, ↓reduceIte] at q1 q2 q4 q5
  have c0 : w.cell? ⟨gc, 0, none⟩ = some (.int .i64 (more lay)) := C.out.c0 hl
  have l2 := World.block_lt_of_cell? _ _ c0
  dsimp only at l2
  clear hl
  have z : ((r : Int) == 0) = false := by simp; omega
  have HA := Lib.hid ha
  clear ha q3 q4 q5 k1
  go_enter Try.func19, Try.ntmps19
  go_wp2_with fail
  refine wp_loop_rounds 1 ?_
  rw [rounds_succ]
  go_wp2_with (first | (go_at_call 41; refine (hi1 b p _ b0 b1 p0 p1).mono ?_; rw [HA.out]; rintro e w' ⟨rfl, rfl⟩) | (go_at_call 43; refine (hi2 b p _ b0 b1 p0 p1).mono ?_; rintro e w' ⟨rfl, rfl⟩))
  go_region
  all_goals
    go_wp2
    exact bodyPost_ret (v := .agg #[.int .u8 2, .int .i64 ((b % 32 * 8192 + p - 24576) % r)]) (by simp [results, Try.results19, go_sem]) rfl ⟨rfl, by repeat (first | exact Below.refl _ _ | apply belowD | apply belowN | apply belowM | apply belowA)⟩

set_option maxRecDepth 100000 in
set_option maxHeartbeats 2000000 in
theorem dec_H2 (x b p lay : Int) (gb gr gm ga gc n cap r : Nat) (w : World) (C : Hid (Cells w lay gb gr gm ga gc n cap r)) (x0 : 0 ≤ x) (x1 : x ≤ 4294967295) (hb : x / 65536 % 256 = b) (hp : x % 65536 = p) (n1 : (b == 126) = false) (n2 : (b == 127) = false) (hl : lay ≠ 1) (ha : hiRam b p = false ∨ (hiRam b p = true ∧ r = 0)) (hrm : r ≤ 524288) (hm : hiRom b p = true) (s1 : 1 ≤ n) (s2 : n ≤ 8388608) :
    Calls Try.prog 19 #[.pointer (some ⟨gb, 0, none⟩), .int .u32 x] w fun e w' => e = .returned (.agg #[.int .u8 1, .int .i64 (place (hiAt (more lay) b p).toNat n)]) ∧ Below w.heap.size w w' := by
  have b0 : 0 ≤ b ∧ b ≤ 255 := by omega
  have p0 : 0 ≤ p ∧ p ≤ 65535 := by omega
  obtain ⟨b0, b1⟩ := b0
  obtain ⟨p0, p1⟩ := p0
  have e1 := and255u (x / 65536) (by omega) (by omega)
  have e2 := and65535u x x0 x1
  rw [hb] at e1
  rw [hp] at e2
  clear hb hp
  have k0 := C.out.b0
  have k1 := C.out.b1
  have k2 := C.out.b2
  have l0 := World.block_lt_of_cell? _ _ k0
  have q0 := C.out.r0
  have q1 := C.out.r1
  have q2 := C.out.r2
  have q3 := C.out.r3
  have q4 := C.out.r4
  have q5 := C.out.r5
  have l1 := World.block_lt_of_cell? _ _ q0
  dsimp only at l0 l1
  simp only [hl, ↓reduceIte] at q1 q2 q4 q5
  have c0 : w.cell? ⟨gc, 0, none⟩ = some (.int .i64 (more lay)) := C.out.c0 hl
  have l2 := World.block_lt_of_cell? _ _ c0
  dsimp only at l2
  clear hl
  have HM := Lib.hid hm
  clear hm
  have mm : more lay = 0 ∨ more lay = 4194304 := by unfold more; split <;> simp
  have aN : 0 ≤ hiAt (more lay) b p ∧ hiAt (more lay) b p ≤ 1073741824 := by unfold hiAt; split <;> omega
  obtain ⟨A, hA⟩ : ∃ A : Nat, hiAt (more lay) b p = (A : Int) := ⟨(hiAt (more lay) b p).toNat, by omega⟩
  have hA2 : A ≤ 1073741824 := by omega
  rw [hA, Int.toNat_natCast]
  have HAA := Lib.hid hA
  have MM := Lib.hid mm
  clear hA aN mm
  rcases ha with ha | ⟨ha, rfl⟩
  all_goals
    have HA := Lib.hid ha
    clear ha
    go_enter Try.func19, Try.ntmps19
    go_wp2_with fail
    refine wp_loop_rounds 2 ?_
    rw [rounds_succ]
    go_wp2_with (first | (go_at_call 41; refine (hi1 b p _ b0 b1 p0 p1).mono ?_; rw [HA.out]; rintro e w' ⟨rfl, rfl⟩) | (go_at_call 43; refine (hi2 b p _ b0 b1 p0 p1).mono ?_; rintro e w' ⟨rfl, rfl⟩))
    rw [rounds_succ]
    go_wp2_with (first | (go_at_call 44; refine (hi3 b p _ b0 b1 p0 p1).mono ?_; rw [HM.out]; rintro e w' ⟨rfl, rfl⟩) | (go_at_call 45; refine (hi4 b p _ b0 b1 p0 p1 ⟨gc, 0, none⟩ (more lay) MM.out ?_).mono ?_; rotate_left; rw [HAA.out]; rintro e w' ⟨rfl, rfl⟩; rotate_right; (repeat (first | exact c0 | apply keepAlloc))))
    go_region_with (go_at_call 26; refine (place_any A n _ s1 s2 hA2).mono ?_; rintro e w' ⟨rfl, rfl⟩)
    all_goals
      go_wp2
      exact bodyPost_ret (v := .agg #[.int .u8 1, .int .i64 (place A n)]) (by simp [results, Try.results19, go_sem]) rfl ⟨rfl, by repeat (first | exact Below.refl _ _ | apply belowD | apply belowN | apply belowM | apply belowA)⟩

set_option maxRecDepth 100000 in
set_option maxHeartbeats 2000000 in
theorem dec_H3 (x b p lay : Int) (gb gr gm ga gc n cap r : Nat) (w : World) (C : Hid (Cells w lay gb gr gm ga gc n cap r)) (x0 : 0 ≤ x) (x1 : x ≤ 4294967295) (hb : x / 65536 % 256 = b) (hp : x % 65536 = p) (n1 : (b == 126) = false) (n2 : (b == 127) = false) (hl : lay ≠ 1) (ha : hiRam b p = false ∨ (hiRam b p = true ∧ r = 0)) (hrm : r ≤ 524288) (hm : hiRom b p = false) :
    Calls Try.prog 19 #[.pointer (some ⟨gb, 0, none⟩), .int .u32 x] w fun e w' => e = .returned (.agg #[.int .u8 0, .int .i64 0]) ∧ Below w.heap.size w w' := by
  have b0 : 0 ≤ b ∧ b ≤ 255 := by omega
  have p0 : 0 ≤ p ∧ p ≤ 65535 := by omega
  obtain ⟨b0, b1⟩ := b0
  obtain ⟨p0, p1⟩ := p0
  have e1 := and255u (x / 65536) (by omega) (by omega)
  have e2 := and65535u x x0 x1
  rw [hb] at e1
  rw [hp] at e2
  clear hb hp
  have k0 := C.out.b0
  have k1 := C.out.b1
  have k2 := C.out.b2
  have l0 := World.block_lt_of_cell? _ _ k0
  have q0 := C.out.r0
  have q1 := C.out.r1
  have q2 := C.out.r2
  have q3 := C.out.r3
  have q4 := C.out.r4
  have q5 := C.out.r5
  have l1 := World.block_lt_of_cell? _ _ q0
  dsimp only at l0 l1
  simp only [hl, ↓reduceIte] at q1 q2 q4 q5
  have c0 : w.cell? ⟨gc, 0, none⟩ = some (.int .i64 (more lay)) := C.out.c0 hl
  have l2 := World.block_lt_of_cell? _ _ c0
  dsimp only at l2
  clear hl
  have HM := Lib.hid hm
  clear hm k1
  rcases ha with ha | ⟨ha, rfl⟩
  all_goals
    have HA := Lib.hid ha
    clear ha
    go_enter Try.func19, Try.ntmps19
    go_wp2_with fail
    refine wp_loop_rounds 3 ?_
    rw [rounds_succ]
    go_wp2_with (first | (go_at_call 41; refine (hi1 b p _ b0 b1 p0 p1).mono ?_; rw [HA.out]; rintro e w' ⟨rfl, rfl⟩) | (go_at_call 43; refine (hi2 b p _ b0 b1 p0 p1).mono ?_; rintro e w' ⟨rfl, rfl⟩))
    rw [rounds_succ]
    go_wp2_with (first | (go_at_call 44; refine (hi3 b p _ b0 b1 p0 p1).mono ?_; rw [HM.out]; rintro e w' ⟨rfl, rfl⟩))
    rw [rounds_succ]
    go_wp2_with fail
    exact bodyPost_ret (v := .agg #[.int .u8 0, .int .i64 0]) (by simp [results, Try.results19, go_sem]) rfl ⟨rfl, by repeat (first | exact Below.refl _ _ | apply belowD | apply belowN | apply belowM | apply belowA)⟩


theorem dec_bank (x b p lay : Int) (gb gr gm ga gc n cap r : Nat) (w : World) (x0 : 0 ≤ x) (x1 : x ≤ 4294967295) (hb : x / 65536 % 256 = b) (hp : x % 65536 = p) (nb : b = 126 ∨ b = 127) :
    Calls Try.prog 19 #[.pointer (some ⟨gb, 0, none⟩), .int .u32 x] w fun e w' => e = .returned (.agg #[.int .u8 0, .int .i64 0]) ∧ Below w.heap.size w w' := by
  have e1 := and255u (x / 65536) (by omega) (by omega)
  have e2 := and65535u x x0 x1
  rw [hb] at e1
  rw [hp] at e2
  clear hb hp
  rcases nb with rfl | rfl
  all_goals
    go_enter Try.func19, Try.ntmps19
    go_wp2_with fail
    exact bodyPost_ret (v := .agg #[.int .u8 0, .int .i64 0]) (by simp [results, Try.results19, go_sem]) rfl ⟨rfl, by repeat (first | exact Below.refl _ _ | apply belowD | apply belowN | apply belowM | apply belowA)⟩

/-- Decode, whatever the board and the address. -/
theorem dec_any (x lay : Int) (gb gr gm ga gc n cap r : Nat) (w : World) (C : Cells w lay gb gr gm ga gc n cap r) (x0 : 0 ≤ x) (x1 : x ≤ 4294967295) (hrm : r ≤ 524288) (s1 : 1 ≤ n) (s2 : n ≤ 8388608) :
    Calls Try.prog 19 #[.pointer (some ⟨gb, 0, none⟩), .int .u32 x] w fun e w' =>
      e = .returned (.agg #[.int .u8 (spot lay n r (x / 65536 % 256) (x % 65536)).1, .int .i64 (spot lay n r (x / 65536 % 256) (x % 65536)).2]) ∧ Below w.heap.size w w' := by
  obtain ⟨b, hb⟩ : ∃ b, x / 65536 % 256 = b := ⟨_, rfl⟩
  obtain ⟨p, hp⟩ : ∃ p, x % 65536 = p := ⟨_, rfl⟩
  rw [hb, hp]
  by_cases nb : b = 126 ∨ b = 127
  · have e : spot lay n r b p = (0, 0) := by unfold spot; rw [if_pos nb]
    rw [e]
    exact dec_bank x b p lay gb gr gm ga gc n cap r w x0 x1 hb hp nb
  have n1 : (b == 126) = false := by simp; omega
  have n2 : (b == 127) = false := by simp; omega
  by_cases hl : lay = 1
  · subst hl
    by_cases h1 : loRam b p = true ∧ 0 < r
    · have e : spot 1 n r b p = (2, (b % 16 * 32768 + p) % r) := by unfold spot; rw [if_neg nb, if_pos rfl, if_pos h1]
      rw [e]
      exact dec_L1 x b p gb gr gm ga gc n cap r w C x0 x1 hb hp n1 n2 h1.1 h1.2 hrm
    · have ha : loRam b p = false ∨ (loRam b p = true ∧ r = 0) := by
        by_cases c : loRam b p = true
        · exact Or.inr ⟨c, by have : ¬ 0 < r := fun q => h1 ⟨c, q⟩; omega⟩
        · exact Or.inl (by simpa using c)
      by_cases h2 : loRom p = true
      · have e : spot 1 n r b p = (1, (place (b % 128 * 32768 + p - 32768).toNat n : Int)) := by unfold spot; rw [if_neg nb, if_pos rfl, if_neg h1, if_pos h2]
        rw [e]
        exact dec_L2 x b p gb gr gm ga gc n cap r w C x0 x1 hb hp n1 n2 ha hrm h2 s1 s2 (by simpa [loRom] using h2)
      · have e : spot 1 n r b p = (0, 0) := by unfold spot; rw [if_neg nb, if_pos rfl, if_neg h1, if_neg h2]
        rw [e]
        exact dec_L3 x b p gb gr gm ga gc n cap r w C x0 x1 hb hp n1 n2 ha hrm (by simpa using h2)
  · by_cases h1 : hiRam b p = true ∧ 0 < r
    · have e : spot lay n r b p = (2, (b % 32 * 8192 + p - 24576) % r) := by unfold spot; rw [if_neg nb, if_neg hl, if_pos h1]
      rw [e]
      exact dec_H1 x b p lay gb gr gm ga gc n cap r w C x0 x1 hb hp n1 n2 hl h1.1 h1.2 hrm (by have := h1.1; simp [hiRam] at this; omega)
    · have ha : hiRam b p = false ∨ (hiRam b p = true ∧ r = 0) := by
        by_cases c : hiRam b p = true
        · exact Or.inr ⟨c, by have : ¬ 0 < r := fun q => h1 ⟨c, q⟩; omega⟩
        · exact Or.inl (by simpa using c)
      by_cases h2 : hiRom b p = true
      · have e : spot lay n r b p = (1, (place (hiAt (more lay) b p).toNat n : Int)) := by unfold spot; rw [if_neg nb, if_neg hl, if_neg h1, if_pos h2]
        rw [e]
        exact dec_H2 x b p lay gb gr gm ga gc n cap r w C x0 x1 hb hp n1 n2 hl ha hrm h2 s1 s2
      · have e : spot lay n r b p = (0, 0) := by unfold spot; rw [if_neg nb, if_neg hl, if_neg h1, if_neg h2]
        rw [e]
        exact dec_H3 x b p lay gb gr gm ga gc n cap r w C x0 x1 hb hp n1 n2 hl ha hrm (by simpa using h2)

end Go.Proofs.Ytbfpacngphjkcaa

