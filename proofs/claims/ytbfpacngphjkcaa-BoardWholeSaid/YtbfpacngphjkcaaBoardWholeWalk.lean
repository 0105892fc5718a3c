/- The walk of the law BoardWhole. -/
import Derived.Test.YtbfpacngphjkcaaBoardP
import Derived.Deep.DeepCutAuto
namespace Go.Proofs.Ytbfpacngphjkcaa.boardWhole
open Go.RowKit Go.ChangeShapes
set_option linter.unusedVariables false
set_option linter.unusedSimpArgs false

theorem rom_lo (n r : Nat) (q : Int) (h0 : 0 ≤ q) (h1 : q < n) (h2 : n ≤ 4194304) : spotAt 1 n r (8388608 + q / 32768 * 65536 + 32768 + q % 32768) = (1, q) := by
  obtain ⟨k, rfl⟩ := Int.eq_ofNat_of_zero_le h0
  obtain ⟨b, hb⟩ : ∃ b, (8388608 + (k : Int) / 32768 * 65536 + 32768 + (k : Int) % 32768) / 65536 % 256 = b := ⟨_, rfl⟩
  obtain ⟨p, hp⟩ : ∃ p, (8388608 + (k : Int) / 32768 * 65536 + 32768 + (k : Int) % 32768) % 65536 = p := ⟨_, rfl⟩
  unfold spotAt
  rw [hb, hp]
  have eb : b = 128 + (k : Int) / 32768 := by omega
  have ep : p = 32768 + (k : Int) % 32768 := by omega
  unfold spot
  rw [if_neg (show ¬ (b = 126 ∨ b = 127) by omega), if_pos rfl]
  have l1 : loRam b p = false := by unfold loRam; exact decide_eq_false (by omega)
  have l2 : loRom p = true := by unfold loRom; exact decide_eq_true (by omega)
  rw [l1, l2, if_neg (by simp), if_pos rfl]
  have e : (b % 128 * 32768 + p - 32768).toNat = k := by omega
  rw [e, place_in (show k < n by omega)]
theorem rom_hi (n r : Nat) (q : Int) (h0 : 0 ≤ q) (h1 : q < n) (h2 : n ≤ 4194304) : spotAt 2 n r (12582912 + q) = (1, q) := by
  obtain ⟨k, rfl⟩ := Int.eq_ofNat_of_zero_le h0
  obtain ⟨b, hb⟩ : ∃ b, (12582912 + (k : Int)) / 65536 % 256 = b := ⟨_, rfl⟩
  obtain ⟨p, hp⟩ : ∃ p, (12582912 + (k : Int)) % 65536 = p := ⟨_, rfl⟩
  unfold spotAt
  rw [hb, hp]
  have eb : b = 192 + (k : Int) / 65536 := by omega
  have ep : p = (k : Int) % 65536 := by omega
  unfold spot
  rw [if_neg (show ¬ (b = 126 ∨ b = 127) by omega), if_neg (by decide)]
  have l1 : hiRam b p = false := by unfold hiRam; exact decide_eq_false (by omega)
  have l2 : hiRom b p = true := by unfold hiRom; exact decide_eq_true (by omega)
  rw [l1, l2, if_neg (by simp), if_pos rfl]
  have e : (hiAt (more 2) b p).toNat = k := by
    unfold hiAt more
    simp only [show (2 : Int) ≠ 3 by decide, if_false]
    split <;> omega
  rw [e, place_in (show k < n by omega)]
theorem ram_lo (n r : Nat) (q : Int) (h0 : 0 ≤ q) (h1 : q < r) (h2 : r ≤ 32768) : spotAt 1 n r (7340032 + q) = (2, q) := by
  obtain ⟨b, hb⟩ : ∃ b, (7340032 + q) / 65536 % 256 = b := ⟨_, rfl⟩
  obtain ⟨p, hp⟩ : ∃ p, (7340032 + q) % 65536 = p := ⟨_, rfl⟩
  unfold spotAt
  rw [hb, hp]
  have eb : b = 112 := by omega
  have ep : p = q := by omega
  subst eb ep
  unfold spot
  have l1 : loRam 112 p = true := by unfold loRam; exact decide_eq_true (by omega)
  rw [if_neg (by decide), if_pos rfl, l1, if_pos ⟨rfl, by omega⟩]
  rw [show (112 : Int) % 16 * 32768 + p = p by omega, Int.emod_eq_of_lt h0 h1]
theorem ram_hi (lay : Int) (hl : lay ≠ 1) (n r : Nat) (q : Int) (h0 : 0 ≤ q) (h1 : q < r) (h2 : r ≤ 8192) : spotAt lay n r (2121728 + q) = (2, q) := by
  obtain ⟨b, hb⟩ : ∃ b, (2121728 + q) / 65536 % 256 = b := ⟨_, rfl⟩
  obtain ⟨p, hp⟩ : ∃ p, (2121728 + q) % 65536 = p := ⟨_, rfl⟩
  unfold spotAt
  rw [hb, hp]
  have eb : b = 32 := by omega
  have ep : p = 24576 + q := by omega
  subst eb ep
  unfold spot
  have l1 : hiRam 32 (24576 + q) = true := by unfold hiRam; exact decide_eq_true (by omega)
  rw [if_neg (by decide), if_neg hl, l1, if_pos ⟨rfl, by omega⟩]
  rw [show (32 : Int) % 32 * 8192 + (24576 + q) - 24576 = q by omega, Int.emod_eq_of_lt h0 h1]

theorem split6 (q : Int) (n : Nat) (lay : Int) (g1 : Bool) : q < 0 ∨ (0 ≤ q ∧ (n : Int) ≤ q) ∨ (0 ≤ q ∧ q < n ∧ 4194304 < (n : Int)) ∨ (0 ≤ q ∧ q < n ∧ (n : Int) ≤ 4194304 ∧ g1 = false) ∨ (0 ≤ q ∧ q < n ∧ (n : Int) ≤ 4194304 ∧ g1 = true ∧ 3 ≤ lay) ∨ (0 ≤ q ∧ q < n ∧ (n : Int) ≤ 4194304 ∧ g1 = true ∧ lay < 3) := by
  grind
theorem split5 (q : Int) (r : Nat) (lay : Int) (g2 : Bool) (b1 : 1 ≤ lay) (c1 : ¬ (0 ≤ q ∧ q < r ∧ g2 = true ∧ ((lay = 1 ∧ r ≤ 32768) ∨ (lay ≠ 1 ∧ r ≤ 8192)))) : q < 0 ∨ (0 ≤ q ∧ (r : Int) ≤ q) ∨ (0 ≤ q ∧ q < r ∧ g2 = false) ∨ (0 ≤ q ∧ q < r ∧ g2 = true ∧ lay = 1 ∧ 32768 < (r : Int)) ∨ (0 ≤ q ∧ q < r ∧ g2 = true ∧ (lay == 1) = false ∧ 1 < lay ∧ 8192 < (r : Int)) := by
  simp only [beq_eq_false_iff_ne, ne_eq]
  grind
set_option maxRecDepth 100000 in
set_option maxHeartbeats 1000000 in
theorem law (lay rom ram by_ q : Int) (w : World) (q0 : -9223372036854775808 ≤ q) (q1 : q ≤ 9223372036854775807) (l0 : 0 ≤ lay) (l1 : lay ≤ 255) (y0 : 0 ≤ by_) (y1 : by_ ≤ 255) (r0 : -9223372036854775808 ≤ rom) (r1 : rom ≤ 9223372036854775807) :
    Calls Try.prog 8 #[planV lay rom ram by_, .int .i64 q] w fun e w' => e = .returned (.bool true) ∧ Below w.heap.size w w' := by
  go_enter Try.func8, Try.ntmps8
  try simp only [List.append_eq, List.cons_append, List.nil_append]
  go_wp2_with fail
  refine (plain_true _).mono ?_
  obtain ⟨W1, hW⟩ : ∃ W1, W1 = w.alloc (.cells #[.int .u8 lay, .int .i64 rom, .int .i64 ram, .int .u8 by_] 23) := ⟨_, rfl⟩
  obtain ⟨B, hB⟩ : ∃ B, B = w.heap.size := ⟨_, rfl⟩
  have c0 : W1.cell? ⟨B, 0, none⟩ = some (.int .u8 lay) := by rw [hW, hB]; simp [go_sem]
  have c1 : W1.cell? ⟨B, 1, none⟩ = some (.int .i64 rom) := by rw [hW, hB]; simp [go_sem]
  have c2 : W1.cell? ⟨B, 2, none⟩ = some (.int .i64 ram) := by rw [hW, hB]; simp [go_sem]
  have c3 : W1.cell? ⟨B, 3, none⟩ = some (.int .u8 by_) := by rw [hW, hB]; simp [go_sem]
  have cb : Below w.heap.size w W1 := by rw [hW]; exact belowA (Below.refl _ _) _
  rw [← hW, ← hB]
  rintro e wp ⟨rfl, hp⟩
  have d0 := keepC hp c0
  have d1 := keepC hp c1
  have d2 := keepC hp c2
  have d3 := keepC hp c3
  have HP := Lib.hid (belowStep cb hp)
  clear c0 c1 c2 c3 cb hW hB hp
  go_wp2_with fail
  refine (made_any lay rom ram by_ _ l0 l1 y0 y1 r0 r1).mono ?_
  have hle := romN_le rom
  obtain ⟨n, hn⟩ : ∃ n, romN rom = n := ⟨_, rfl⟩
  rw [hn] at hle ⊢
  have HN := Lib.hid hn
  clear hn d1 d3
  rintro e w2 (⟨can, gb, gr, gm, ga, gc, cap, g0, f, rfl, bd, a0, hg0, hne, hb⟩ | ⟨can, g0, rfl, hb⟩)
  · unfold canB at can
    obtain ⟨b1, b2, b3, b4, b5, b6⟩ := of_decide_eq_true can
    obtain ⟨r, rfl⟩ := Int.eq_ofNat_of_zero_le b5
    rw [Int.toNat_natCast] at bd
    have e0 := keepC hb d0
    have e2 := keepC hb d2
    have HB := Lib.hid (belowStep HP.out hb)
    have BD := Lib.hid bd
    clear can bd a0 hb d0 d2 HP b5
    obtain ⟨g1, hg1⟩ : ∃ g : Bool, (bits .and .i64 (n : Int) ((n : Int) - 1) == 0) = g := ⟨_, rfl⟩
    obtain ⟨g2, hg2⟩ : ∃ g : Bool, (bits .and .i64 (r : Int) ((r : Int) - 1) == 0) = g := ⟨_, rfl⟩
    have hBlt : B < w2.heap.size := World.block_lt_of_cell? _ _ e0
    go_upto_region 7 with (fail)
    go_cut [50] from 28 to 50 (fun s wx => ∃ b : Bool, s = .bool b ∧ (b = true → 0 ≤ q ∧ q < n ∧ n ≤ 4194304 ∧ lay < 3) ∧ w2 = wx)
    case first =>
      have hc : q < 0 ∨ (0 ≤ q ∧ (n : Int) ≤ q) ∨ (0 ≤ q ∧ q < n ∧ 4194304 < (n : Int)) ∨ (0 ≤ q ∧ q < n ∧ (n : Int) ≤ 4194304 ∧ g1 = false) ∨ (0 ≤ q ∧ q < n ∧ (n : Int) ≤ 4194304 ∧ g1 = true ∧ 3 ≤ lay) ∨ (0 ≤ q ∧ q < n ∧ (n : Int) ≤ 4194304 ∧ g1 = true ∧ lay < 3) := by
        exact split6 q n lay g1
      rcases hc with h | ⟨h, k1⟩ | ⟨h, k1, k2⟩ | ⟨h, k1, k2, rfl⟩ | ⟨h, k1, k2, rfl, k3⟩ | ⟨h, k1, k2, rfl, k3⟩
      all_goals
        go_wp2_with fail
        go_meet
        first | exact ⟨_, rfl, fun hh => by first | (simp at hh; omega) | cases hh | (exact ⟨by omega, by omega, by omega, by omega⟩), rfl⟩
    case rest =>
      obtain ⟨b, rfl, hcond, rfl⟩ := hcut
      clear hg1
      go_upto_if 50 with (fail)
      go_cut [] from 51 to 71 (fun wx => Below w2.heap.size w2 wx)
      case first =>
        cases b
        · clear hcond
          go_wp2_with fail
          go_meet
          exact Below.refl _ _
        · obtain ⟨h1, h2, h3, h4⟩ := hcond rfl
          clear hcond
          rcases (show lay = 1 ∨ lay = 2 by omega) with rfl | rfl
          · have d := dec_any (8388608 + q / 32768 * 65536 + 32768 + q % 32768) 1 gb gr gm ga gc n cap r w2 BD.out.cells (by omega) (by omega) (by omega) b3 b4
            have e := rom_lo n r q h1 h2 h3
            unfold spotAt at e
            rw [e] at d
            have D := Lib.hid d
            clear d e
            go_wp2_with fail
            refine D.out.mono ?_
            rintro e w3 ⟨rfl, hb3⟩
            go_wp2_with fail
            go_meet
            exact hb3
          · have d := dec_any (12582912 + q) 2 gb gr gm ga gc n cap r w2 BD.out.cells (by omega) (by omega) (by omega) b3 b4
            have e := rom_hi n r q h1 h2 h3
            unfold spotAt at e
            rw [e] at d
            have D := Lib.hid d
            clear d e
            go_wp2_with fail
            refine D.out.mono ?_
            rintro e w3 ⟨rfl, hb3⟩
            go_wp2_with fail
            go_meet
            exact hb3
      case rest =>
        have f0 := keepC hcut e0
        have f2 := keepC hcut e2
        have HC := Lib.hid hcut
        have BD2 := Lib.hid (BD.out.kept hcut)
        clear hcut e0 e2 BD hcond
        by_cases c1 : 0 ≤ q ∧ q < r ∧ g2 = true ∧ ((lay = 1 ∧ r ≤ 32768) ∨ (lay ≠ 1 ∧ r ≤ 8192))
        · obtain ⟨h1, h2, rfl, h3 | h3⟩ := c1
          · obtain ⟨rfl, h4⟩ := h3
            have d := dec_any (7340032 + q) 1 gb gr gm ga gc n cap r wc BD2.out.cells (by omega) (by omega) (by omega) b3 b4
            have e := ram_lo n r q h1 h2 h4
            unfold spotAt at e
            rw [e] at d
            have D := Lib.hid d
            clear d e
            go_wp2_with fail
            refine D.out.mono ?_
            rintro e w3 ⟨rfl, hb3⟩
            go_wp2_with fail
            go_ret
            exact ⟨rfl, belowStep (belowStep HB.out HC.out) hb3⟩
          · obtain ⟨hl, h4⟩ := h3
            have q3 : (lay == 1) = false := by simpa using hl
            have q4 : decide (lay > 1) = true := decide_eq_true (by omega)
            have q5 : 1 < lay := by omega
            have d := dec_any (2121728 + q) lay gb gr gm ga gc n cap r wc BD2.out.cells (by omega) (by omega) (by omega) b3 b4
            have e := ram_hi lay hl n r q h1 h2 h4
            unfold spotAt at e
            rw [e] at d
            have D := Lib.hid d
            clear d e hl
            go_wp2_with fail
            refine D.out.mono ?_
            rintro e w3 ⟨rfl, hb3⟩
            go_wp2_with fail
            go_ret
            exact ⟨rfl, belowStep (belowStep HB.out HC.out) hb3⟩
        · have hc : q < 0 ∨ (0 ≤ q ∧ (r : Int) ≤ q) ∨ (0 ≤ q ∧ q < r ∧ g2 = false) ∨ (0 ≤ q ∧ q < r ∧ g2 = true ∧ lay = 1 ∧ 32768 < (r : Int)) ∨ (0 ≤ q ∧ q < r ∧ g2 = true ∧ (lay == 1) = false ∧ 1 < lay ∧ 8192 < (r : Int)) := by
            exact split5 q r lay g2 b1 c1
          clear c1
          rcases hc with h | ⟨h, k1⟩ | ⟨h, k1, rfl⟩ | ⟨h, k1, rfl, rfl, k3⟩ | ⟨h, k1, rfl, k2, k3, k4⟩
          all_goals
            go_wp2_with fail
            go_ret
            exact ⟨rfl, belowStep HB.out HC.out⟩
  · have HB := Lib.hid (belowStep HP.out hb)
    clear can hb d0 d2 HP
    go_wp2_with fail
    go_ret
    exact ⟨rfl, HB.out⟩

open Go.WideShapes Go.ChangeAt in
set_option maxRecDepth 100000 in
theorem walk (H : Type) (enc : TypeId × Value → H) (W : World) (base : Nat) (v0 v1 : Value) {d0 d1 : DataW H} {p0 p1 : List MemPlace} (k0 : Value.okWide Try.prog W .any base 23 v0) (h0 : DataW.Trod enc Try.prog W 0 (fun _ => true) true 23 v0 d0 p0)
    (k1 : Value.okWide Try.prog W .any base 3 v1) (h1 : DataW.Trod enc Try.prog W 0 (fun _ => true) true 3 v1 d1 p1) :
    Calls Try.prog 8 #[v0, v1] W fun e w' => e = .returned (.bool true) ∧ Below W.heap.size W w' := by
  obtain ⟨lay, rom, ram, by_, rfl, l0, l1, y0, y1, r0, r1, _, _⟩ := openPlan k0 h0
  obtain ⟨x, rfl, rfl, rfl, hx⟩ := open_int Try.underlying3 k1 h1
  exact law lay rom ram by_ x W (wf_i64 hx).1 (wf_i64 hx).2 l0 l1 y0 y1 r0 r1
end Go.Proofs.Ytbfpacngphjkcaa.boardWhole
