/- The document's Decode is 'spot'. -/
import Derived.Test.YtbfpacngphjkcaaBoardR
namespace Go.Proofs.Ytbfpacngphjkcaa
open Go.RowKit
set_option linter.unusedVariables false

theorem rd_bank (x b p lay : Int) (n r : Nat) (w : World) (x0 : 0 ≤ x) (x1 : x ≤ 4294967295) (e1 : x / 65536 % 256 = b) (e2 : x % 65536 = p) (nb : b = 126 ∨ b = 127) :
    Calls Try.prog 20 #[.int .u8 lay, .int .i64 n, .int .i64 r, .int .u32 x] w fun e w' => e = .returned (.agg #[.int .u8 0, .int .i64 0]) ∧ Below w.heap.size w w' := by
  rcases nb with rfl | rfl
  all_goals
    go_enter Try.func20, Try.ntmps20
    go_wp2_with fail
    exact bodyPost_ret (v := .agg #[.int .u8 0, .int .i64 0]) (by simp [results, Try.results20, go_sem]) rfl ⟨rfl, by repeat (first | exact Below.refl _ _ | apply belowD | apply belowN | apply belowM | apply belowA)⟩

set_option maxHeartbeats 4000000 in
theorem rdec_any (x lay : Int) (n r : Nat) (w : World) (x0 : 0 ≤ x) (x1 : x ≤ 4294967295) (hrm : r ≤ 524288) (s1 : 1 ≤ n) (s2 : n ≤ 8388608) :
    Calls Try.prog 20 #[.int .u8 lay, .int .i64 n, .int .i64 r, .int .u32 x] w fun e w' =>
      e = .returned (.agg #[.int .u8 (spot lay n r (x / 65536 % 256) (x % 65536)).1, .int .i64 (spot lay n r (x / 65536 % 256) (x % 65536)).2]) ∧ Below w.heap.size w w' := by
  obtain ⟨b, hb⟩ : ∃ b, x / 65536 % 256 = b := ⟨_, rfl⟩
  obtain ⟨p, hp⟩ : ∃ p, x % 65536 = p := ⟨_, rfl⟩
  rw [hb, hp]
  by_cases nb : b = 126 ∨ b = 127
  · have e : spot lay n r b p = (0, 0) := by unfold spot; rw [if_pos nb]
    rw [e]
    exact rd_bank x b p lay n r w x0 x1 hb hp nb
  have n1 : (b == 126) = false := by simp; omega
  have n2 : (b == 127) = false := by simp; omega
  have b0 : 0 ≤ b := by omega
  have b1 : b ≤ 255 := by omega
  have p0 : 0 ≤ p := by omega
  have p1 : p ≤ 65535 := by omega
  have B8 : b < 32 ∨ (32 ≤ b ∧ b ≤ 63) ∨ (64 ≤ b ∧ b < 112) ∨ (112 ≤ b ∧ b ≤ 125) ∨ (128 ≤ b ∧ b < 160) ∨ (160 ≤ b ∧ b ≤ 191) ∨ (192 ≤ b ∧ b < 240) ∨ 240 ≤ b := by omega
  have P3 : p < 24576 ∨ (24576 ≤ p ∧ p < 32768) ∨ 32768 ≤ p := by omega
  have R2 : r ≤ 0 ∨ 0 < r := by omega
  by_cases hl : lay = 1
  · by_cases h1 : loRam b p = true ∧ 0 < r
    · have e : spot lay n r b p = (2, (b % 16 * 32768 + p) % r) := by unfold spot; rw [if_neg nb, if_pos hl, if_pos h1]
      rw [e]
      obtain ⟨h1, hr⟩ := h1
      simp [loRam] at h1
      by_cases q : b ≤ 125
      · exact rd_L1_0 x b p lay n r w x0 x1 hb hp n1 n2 b0 b1 p0 p1 s1 s2 hrm (by simp; omega) (by omega) (by omega) (by omega) (by omega)
      · exact rd_L1_1 x b p lay n r w x0 x1 hb hp n1 n2 b0 b1 p0 p1 s1 s2 hrm (by simp; omega) (by omega) (by omega) (by omega) (by omega) (by omega)
    · by_cases h2 : loRom p = true
      · have e : spot lay n r b p = (1, (place (b % 128 * 32768 + p - 32768).toNat n : Int)) := by unfold spot; rw [if_neg nb, if_pos hl, if_neg h1, if_pos h2]
        rw [e]
        simp [loRom] at h2
        rcases B8 with B8 | B8 | B8 | B8 | B8 | B8 | B8 | B8 <;> first
          | (exfalso; omega)
          | ((with_reducible refine rd_L2_0 x b p lay n r w x0 x1 hb hp n1 n2 b0 b1 p0 p1 s1 s2 hrm ?_ ?_ ?_) <;> first | omega | (simp; omega))
          | ((with_reducible refine rd_L2_1 x b p lay n r w x0 x1 hb hp n1 n2 b0 b1 p0 p1 s1 s2 hrm ?_ ?_ ?_ ?_) <;> first | omega | (simp; omega))
          | ((with_reducible refine rd_L2_2 x b p lay n r w x0 x1 hb hp n1 n2 b0 b1 p0 p1 s1 s2 hrm ?_ ?_ ?_ ?_ ?_) <;> first | omega | (simp; omega))
          | ((with_reducible refine rd_L2_3 x b p lay n r w x0 x1 hb hp n1 n2 b0 b1 p0 p1 s1 s2 hrm ?_ ?_ ?_ ?_ ?_) <;> first | omega | (simp; omega))
      · have e : spot lay n r b p = (0, 0) := by unfold spot; rw [if_neg nb, if_pos hl, if_neg h1, if_neg h2]
        rw [e]
        simp [loRom] at h2
        simp [loRam] at h1
        rcases B8 with B8 | B8 | B8 | B8 | B8 | B8 | B8 | B8 <;> rcases R2 with R2 | R2 <;> first
          | (exfalso; omega)
          | ((with_reducible refine rd_L3_0 x b p lay n r w x0 x1 hb hp n1 n2 b0 b1 p0 p1 s1 s2 hrm ?_ ?_ ?_) <;> first | omega | (simp; omega))
          | ((with_reducible refine rd_L3_1 x b p lay n r w x0 x1 hb hp n1 n2 b0 b1 p0 p1 s1 s2 hrm ?_ ?_ ?_ ?_ ?_) <;> first | omega | (simp; omega))
          | ((with_reducible refine rd_L3_2 x b p lay n r w x0 x1 hb hp n1 n2 b0 b1 p0 p1 s1 s2 hrm ?_ ?_ ?_ ?_ ?_) <;> first | omega | (simp; omega))
          | ((with_reducible refine rd_L3_3 x b p lay n r w x0 x1 hb hp n1 n2 b0 b1 p0 p1 s1 s2 hrm ?_ ?_ ?_ ?_ ?_ ?_) <;> first | omega | (simp; omega))
  · by_cases h1 : hiRam b p = true ∧ 0 < r
    · have e : spot lay n r b p = (2, (b % 32 * 8192 + p - 24576) % r) := by unfold spot; rw [if_neg nb, if_neg hl, if_pos h1]
      rw [e]
      obtain ⟨h1, hr⟩ := h1
      simp [hiRam] at h1
      rcases B8 with B8 | B8 | B8 | B8 | B8 | B8 | B8 | B8 <;> first
        | (exfalso; omega)
        | ((with_reducible refine rd_H1_0 x b p lay n r w x0 x1 hb hp n1 n2 b0 b1 p0 p1 s1 s2 hrm ?_ ?_ ?_ ?_ ?_ ?_) <;> first | omega | (simp; omega))
        | ((with_reducible refine rd_H1_1 x b p lay n r w x0 x1 hb hp n1 n2 b0 b1 p0 p1 s1 s2 hrm ?_ ?_ ?_ ?_ ?_ ?_ ?_ ?_) <;> first | omega | (simp; omega))
    · by_cases h2 : hiRom b p = true
      · have e : spot lay n r b p = (1, (place (b % 64 * 65536 + p + (if b < 128 then more lay else 0)).toNat n : Int)) := by unfold spot; rw [if_neg nb, if_neg hl, if_neg h1, if_pos h2]; rfl
        rw [e]
        simp [hiRom] at h2
        by_cases h3 : lay = 3
        · by_cases h4 : b < 128
          · rw [if_pos h4, show more lay = 4194304 by simp [more, h3]]
            rcases B8 with B8 | B8 | B8 | B8 | B8 | B8 | B8 | B8 <;> rcases P3 with P3 | P3 | P3 <;> first
              | (exfalso; omega)
              | ((with_reducible refine rd_H2_0 x b p lay n r w x0 x1 hb hp n1 n2 b0 b1 p0 p1 s1 s2 hrm ?_ ?_ ?_ ?_ ?_) <;> first | omega | (simp; omega))
              | ((with_reducible refine rd_H2_1 x b p lay n r w x0 x1 hb hp n1 n2 b0 b1 p0 p1 s1 s2 hrm ?_ ?_ ?_ ?_ ?_) <;> first | omega | (simp; omega))
              | ((with_reducible refine rd_H2_2 x b p lay n r w x0 x1 hb hp n1 n2 b0 b1 p0 p1 s1 s2 hrm ?_ ?_ ?_ ?_ ?_ ?_) <;> first | omega | (simp; omega))
              | ((with_reducible refine rd_H2_3 x b p lay n r w x0 x1 hb hp n1 n2 b0 b1 p0 p1 s1 s2 hrm ?_ ?_ ?_ ?_ ?_ ?_) <;> first | omega | (simp; omega))
              | ((with_reducible refine rd_H2_4 x b p lay n r w x0 x1 hb hp n1 n2 b0 b1 p0 p1 s1 s2 hrm ?_ ?_ ?_ ?_ ?_ ?_ ?_ ?_) <;> first | omega | (simp; omega))
              | ((with_reducible refine rd_H2_5 x b p lay n r w x0 x1 hb hp n1 n2 b0 b1 p0 p1 s1 s2 hrm ?_ ?_ ?_ ?_ ?_ ?_ ?_) <;> first | omega | (simp; omega))
              | ((with_reducible refine rd_H2_6 x b p lay n r w x0 x1 hb hp n1 n2 b0 b1 p0 p1 s1 s2 hrm ?_ ?_ ?_ ?_ ?_ ?_ ?_ ?_) <;> first | omega | (simp; omega))
              | ((with_reducible refine rd_H2_7 x b p lay n r w x0 x1 hb hp n1 n2 b0 b1 p0 p1 s1 s2 hrm ?_ ?_ ?_ ?_ ?_ ?_ ?_) <;> first | omega | (simp; omega))
              | ((with_reducible refine rd_H2_8 x b p lay n r w x0 x1 hb hp n1 n2 b0 b1 p0 p1 s1 s2 hrm ?_ ?_ ?_ ?_ ?_ ?_ ?_ ?_ ?_ ?_) <;> first | omega | (simp; omega))
              | ((with_reducible refine rd_H2_9 x b p lay n r w x0 x1 hb hp n1 n2 b0 b1 p0 p1 s1 s2 hrm ?_ ?_ ?_ ?_ ?_ ?_ ?_ ?_ ?_ ?_) <;> first | omega | (simp; omega))
              | ((with_reducible refine rd_H2_10 x b p lay n r w x0 x1 hb hp n1 n2 b0 b1 p0 p1 s1 s2 hrm ?_ ?_ ?_ ?_ ?_ ?_ ?_ ?_ ?_ ?_) <;> first | omega | (simp; omega))
              | ((with_reducible refine rd_H2_11 x b p lay n r w x0 x1 hb hp n1 n2 b0 b1 p0 p1 s1 s2 hrm ?_ ?_ ?_ ?_ ?_ ?_ ?_ ?_ ?_ ?_) <;> first | omega | (simp; omega))
              | ((with_reducible refine rd_H2_12 x b p lay n r w x0 x1 hb hp n1 n2 b0 b1 p0 p1 s1 s2 hrm ?_ ?_ ?_ ?_ ?_ ?_ ?_ ?_ ?_ ?_ ?_) <;> first | omega | (simp; omega))
              | ((with_reducible refine rd_H2_13 x b p lay n r w x0 x1 hb hp n1 n2 b0 b1 p0 p1 s1 s2 hrm ?_ ?_ ?_ ?_ ?_ ?_ ?_ ?_ ?_ ?_) <;> first | omega | (simp; omega))
              | ((with_reducible refine rd_H2_14 x b p lay n r w x0 x1 hb hp n1 n2 b0 b1 p0 p1 s1 s2 hrm ?_ ?_ ?_ ?_ ?_ ?_ ?_ ?_ ?_ ?_ ?_) <;> first | omega | (simp; omega))
              | ((with_reducible refine rd_H2_15 x b p lay n r w x0 x1 hb hp n1 n2 b0 b1 p0 p1 s1 s2 hrm ?_ ?_ ?_ ?_ ?_ ?_ ?_ ?_ ?_ ?_) <;> first | omega | (simp; omega))
          · rw [if_neg h4, Int.add_zero]
            rcases B8 with B8 | B8 | B8 | B8 | B8 | B8 | B8 | B8 <;> rcases P3 with P3 | P3 | P3 <;> first
              | (exfalso; omega)
              | ((with_reducible refine rd_H2_0 x b p lay n r w x0 x1 hb hp n1 n2 b0 b1 p0 p1 s1 s2 hrm ?_ ?_ ?_ ?_ ?_) <;> first | omega | (simp; omega))
              | ((with_reducible refine rd_H2_1 x b p lay n r w x0 x1 hb hp n1 n2 b0 b1 p0 p1 s1 s2 hrm ?_ ?_ ?_ ?_ ?_) <;> first | omega | (simp; omega))
              | ((with_reducible refine rd_H2_2 x b p lay n r w x0 x1 hb hp n1 n2 b0 b1 p0 p1 s1 s2 hrm ?_ ?_ ?_ ?_ ?_ ?_) <;> first | omega | (simp; omega))
              | ((with_reducible refine rd_H2_3 x b p lay n r w x0 x1 hb hp n1 n2 b0 b1 p0 p1 s1 s2 hrm ?_ ?_ ?_ ?_ ?_ ?_) <;> first | omega | (simp; omega))
              | ((with_reducible refine rd_H2_4 x b p lay n r w x0 x1 hb hp n1 n2 b0 b1 p0 p1 s1 s2 hrm ?_ ?_ ?_ ?_ ?_ ?_ ?_ ?_) <;> first | omega | (simp; omega))
              | ((with_reducible refine rd_H2_5 x b p lay n r w x0 x1 hb hp n1 n2 b0 b1 p0 p1 s1 s2 hrm ?_ ?_ ?_ ?_ ?_ ?_ ?_) <;> first | omega | (simp; omega))
              | ((with_reducible refine rd_H2_6 x b p lay n r w x0 x1 hb hp n1 n2 b0 b1 p0 p1 s1 s2 hrm ?_ ?_ ?_ ?_ ?_ ?_ ?_ ?_) <;> first | omega | (simp; omega))
              | ((with_reducible refine rd_H2_7 x b p lay n r w x0 x1 hb hp n1 n2 b0 b1 p0 p1 s1 s2 hrm ?_ ?_ ?_ ?_ ?_ ?_ ?_) <;> first | omega | (simp; omega))
              | ((with_reducible refine rd_H2_8 x b p lay n r w x0 x1 hb hp n1 n2 b0 b1 p0 p1 s1 s2 hrm ?_ ?_ ?_ ?_ ?_ ?_ ?_ ?_ ?_ ?_) <;> first | omega | (simp; omega))
              | ((with_reducible refine rd_H2_9 x b p lay n r w x0 x1 hb hp n1 n2 b0 b1 p0 p1 s1 s2 hrm ?_ ?_ ?_ ?_ ?_ ?_ ?_ ?_ ?_ ?_) <;> first | omega | (simp; omega))
              | ((with_reducible refine rd_H2_10 x b p lay n r w x0 x1 hb hp n1 n2 b0 b1 p0 p1 s1 s2 hrm ?_ ?_ ?_ ?_ ?_ ?_ ?_ ?_ ?_ ?_) <;> first | omega | (simp; omega))
              | ((with_reducible refine rd_H2_11 x b p lay n r w x0 x1 hb hp n1 n2 b0 b1 p0 p1 s1 s2 hrm ?_ ?_ ?_ ?_ ?_ ?_ ?_ ?_ ?_ ?_) <;> first | omega | (simp; omega))
              | ((with_reducible refine rd_H2_12 x b p lay n r w x0 x1 hb hp n1 n2 b0 b1 p0 p1 s1 s2 hrm ?_ ?_ ?_ ?_ ?_ ?_ ?_ ?_ ?_ ?_ ?_) <;> first | omega | (simp; omega))
              | ((with_reducible refine rd_H2_13 x b p lay n r w x0 x1 hb hp n1 n2 b0 b1 p0 p1 s1 s2 hrm ?_ ?_ ?_ ?_ ?_ ?_ ?_ ?_ ?_ ?_) <;> first | omega | (simp; omega))
              | ((with_reducible refine rd_H2_14 x b p lay n r w x0 x1 hb hp n1 n2 b0 b1 p0 p1 s1 s2 hrm ?_ ?_ ?_ ?_ ?_ ?_ ?_ ?_ ?_ ?_ ?_) <;> first | omega | (simp; omega))
              | ((with_reducible refine rd_H2_15 x b p lay n r w x0 x1 hb hp n1 n2 b0 b1 p0 p1 s1 s2 hrm ?_ ?_ ?_ ?_ ?_ ?_ ?_ ?_ ?_ ?_) <;> first | omega | (simp; omega))
        · rw [show (if b < 128 then more lay else 0) = 0 by simp [more, h3], Int.add_zero]
          rcases B8 with B8 | B8 | B8 | B8 | B8 | B8 | B8 | B8 <;> rcases P3 with P3 | P3 | P3 <;> first
            | (exfalso; omega)
            | ((with_reducible refine rd_H2_0 x b p lay n r w x0 x1 hb hp n1 n2 b0 b1 p0 p1 s1 s2 hrm ?_ ?_ ?_ ?_ ?_) <;> first | omega | (simp; omega))
            | ((with_reducible refine rd_H2_1 x b p lay n r w x0 x1 hb hp n1 n2 b0 b1 p0 p1 s1 s2 hrm ?_ ?_ ?_ ?_ ?_) <;> first | omega | (simp; omega))
            | ((with_reducible refine rd_H2_2 x b p lay n r w x0 x1 hb hp n1 n2 b0 b1 p0 p1 s1 s2 hrm ?_ ?_ ?_ ?_ ?_ ?_) <;> first | omega | (simp; omega))
            | ((with_reducible refine rd_H2_3 x b p lay n r w x0 x1 hb hp n1 n2 b0 b1 p0 p1 s1 s2 hrm ?_ ?_ ?_ ?_ ?_ ?_) <;> first | omega | (simp; omega))
            | ((with_reducible refine rd_H2_4 x b p lay n r w x0 x1 hb hp n1 n2 b0 b1 p0 p1 s1 s2 hrm ?_ ?_ ?_ ?_ ?_ ?_ ?_ ?_) <;> first | omega | (simp; omega))
            | ((with_reducible refine rd_H2_5 x b p lay n r w x0 x1 hb hp n1 n2 b0 b1 p0 p1 s1 s2 hrm ?_ ?_ ?_ ?_ ?_ ?_ ?_) <;> first | omega | (simp; omega))
            | ((with_reducible refine rd_H2_6 x b p lay n r w x0 x1 hb hp n1 n2 b0 b1 p0 p1 s1 s2 hrm ?_ ?_ ?_ ?_ ?_ ?_ ?_ ?_) <;> first | omega | (simp; omega))
            | ((with_reducible refine rd_H2_7 x b p lay n r w x0 x1 hb hp n1 n2 b0 b1 p0 p1 s1 s2 hrm ?_ ?_ ?_ ?_ ?_ ?_ ?_) <;> first | omega | (simp; omega))
            | ((with_reducible refine rd_H2_8 x b p lay n r w x0 x1 hb hp n1 n2 b0 b1 p0 p1 s1 s2 hrm ?_ ?_ ?_ ?_ ?_ ?_ ?_ ?_ ?_ ?_) <;> first | omega | (simp; omega))
            | ((with_reducible refine rd_H2_9 x b p lay n r w x0 x1 hb hp n1 n2 b0 b1 p0 p1 s1 s2 hrm ?_ ?_ ?_ ?_ ?_ ?_ ?_ ?_ ?_ ?_) <;> first | omega | (simp; omega))
            | ((with_reducible refine rd_H2_10 x b p lay n r w x0 x1 hb hp n1 n2 b0 b1 p0 p1 s1 s2 hrm ?_ ?_ ?_ ?_ ?_ ?_ ?_ ?_ ?_ ?_) <;> first | omega | (simp; omega))
            | ((with_reducible refine rd_H2_11 x b p lay n r w x0 x1 hb hp n1 n2 b0 b1 p0 p1 s1 s2 hrm ?_ ?_ ?_ ?_ ?_ ?_ ?_ ?_ ?_ ?_) <;> first | omega | (simp; omega))
            | ((with_reducible refine rd_H2_12 x b p lay n r w x0 x1 hb hp n1 n2 b0 b1 p0 p1 s1 s2 hrm ?_ ?_ ?_ ?_ ?_ ?_ ?_ ?_ ?_ ?_ ?_) <;> first | omega | (simp; omega))
            | ((with_reducible refine rd_H2_13 x b p lay n r w x0 x1 hb hp n1 n2 b0 b1 p0 p1 s1 s2 hrm ?_ ?_ ?_ ?_ ?_ ?_ ?_ ?_ ?_ ?_) <;> first | omega | (simp; omega))
            | ((with_reducible refine rd_H2_14 x b p lay n r w x0 x1 hb hp n1 n2 b0 b1 p0 p1 s1 s2 hrm ?_ ?_ ?_ ?_ ?_ ?_ ?_ ?_ ?_ ?_ ?_) <;> first | omega | (simp; omega))
            | ((with_reducible refine rd_H2_15 x b p lay n r w x0 x1 hb hp n1 n2 b0 b1 p0 p1 s1 s2 hrm ?_ ?_ ?_ ?_ ?_ ?_ ?_ ?_ ?_ ?_) <;> first | omega | (simp; omega))
      · have e : spot lay n r b p = (0, 0) := by unfold spot; rw [if_neg nb, if_neg hl, if_neg h1, if_neg h2]
        rw [e]
        simp [hiRom] at h2
        simp [hiRam] at h1
        rcases B8 with B8 | B8 | B8 | B8 | B8 | B8 | B8 | B8 <;> rcases P3 with P3 | P3 | P3 <;> rcases R2 with R2 | R2 <;> first
          | (exfalso; omega)
          | ((with_reducible refine rd_H3_0 x b p lay n r w x0 x1 hb hp n1 n2 b0 b1 p0 p1 s1 s2 hrm ?_ ?_ ?_) <;> first | omega | (simp; omega))
          | ((with_reducible refine rd_H3_1 x b p lay n r w x0 x1 hb hp n1 n2 b0 b1 p0 p1 s1 s2 hrm ?_ ?_ ?_ ?_ ?_ ?_ ?_ ?_) <;> first | omega | (simp; omega))
          | ((with_reducible refine rd_H3_2 x b p lay n r w x0 x1 hb hp n1 n2 b0 b1 p0 p1 s1 s2 hrm ?_ ?_ ?_ ?_ ?_) <;> first | omega | (simp; omega))
          | ((with_reducible refine rd_H3_3 x b p lay n r w x0 x1 hb hp n1 n2 b0 b1 p0 p1 s1 s2 hrm ?_ ?_ ?_ ?_ ?_ ?_) <;> first | omega | (simp; omega))
          | ((with_reducible refine rd_H3_4 x b p lay n r w x0 x1 hb hp n1 n2 b0 b1 p0 p1 s1 s2 hrm ?_ ?_ ?_ ?_ ?_ ?_ ?_ ?_ ?_) <;> first | omega | (simp; omega))
          | ((with_reducible refine rd_H3_5 x b p lay n r w x0 x1 hb hp n1 n2 b0 b1 p0 p1 s1 s2 hrm ?_ ?_ ?_ ?_ ?_ ?_ ?_ ?_ ?_ ?_) <;> first | omega | (simp; omega))
end Go.Proofs.Ytbfpacngphjkcaa

