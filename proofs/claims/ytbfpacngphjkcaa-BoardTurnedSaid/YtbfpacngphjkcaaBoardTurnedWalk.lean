/- The walk of the law BoardTurned. -/
import Derived.Test.YtbfpacngphjkcaaBoardP
namespace Go.Proofs.Ytbfpacngphjkcaa.boardTurned
open Go.RowKit Go.ChangeShapes
set_option linter.unusedVariables false
set_option linter.unusedSimpArgs false

theorem loRam_up (b p : Int) : loRam (b + 128) p = loRam b p := by
  unfold loRam; rw [show (b + 128) / 16 % 8 = b / 16 % 8 by omega]
theorem hiRam_up (b p : Int) : hiRam (b + 128) p = hiRam b p := by
  unfold hiRam; rw [show (b + 128) % 128 = b % 128 by omega]
theorem hiRom_up (b p : Int) : hiRom (b + 128) p = hiRom b p := by
  unfold hiRom; rw [show (b + 128) / 64 % 2 = b / 64 % 2 by omega]

/-- The upper half of the banks. -/
theorem spot_up (lay : Int) (n r : Nat) (b p : Int) (h0 : 0 ≤ b) (h1 : b ≤ 125) (hl : lay ≠ 3 ∨ (spot lay n r b p).1 ≠ 1) : spot lay n r (b + 128) p = spot lay n r b p := by
  unfold spot at *
  have n1 : ¬ (b + 128 = 126 ∨ b + 128 = 127) := by omega
  have n2 : ¬ (b = 126 ∨ b = 127) := by omega
  rw [if_neg n1, if_neg n2]
  rw [if_neg n2] at hl
  rw [loRam_up, hiRam_up, hiRom_up, show (b + 128) % 16 = b % 16 by omega, show (b + 128) % 32 = b % 32 by omega, show (b + 128) % 128 = b % 128 by omega]
  by_cases c1 : lay = 1
  · rw [if_pos c1, if_pos c1]
  · rw [if_neg c1, if_neg c1]
    rw [if_neg c1] at hl
    by_cases c2 : hiRam b p = true ∧ 0 < r
    · rw [if_pos c2, if_pos c2]
    · rw [if_neg c2, if_neg c2]
      rw [if_neg c2] at hl
      by_cases c3 : hiRom b p = true
      · rw [if_pos c3, if_pos c3]
        rw [if_pos c3] at hl
        have hl3 : lay ≠ 3 := hl.resolve_right (fun h => h rfl)
        have : hiAt (more lay) (b + 128) p = hiAt (more lay) b p := by
          unfold hiAt more
          rw [if_neg hl3]
          split <;> split <;> omega
        rw [this]
      · rw [if_neg c3, if_neg c3]
theorem spot_up3 (n r : Nat) (b p : Int) (h0 : 0 ≤ b) (h1 : b ≤ 125) (hl : (spot 3 n r b p).1 = 1) : (spot 3 n r (b + 128) p).1 = 1 := by
  unfold spot at *
  have n1 : ¬ (b + 128 = 126 ∨ b + 128 = 127) := by omega
  have n2 : ¬ (b = 126 ∨ b = 127) := by omega
  rw [if_neg n1]
  rw [if_neg n2] at hl
  rw [if_neg (by decide)] at hl ⊢
  rw [hiRam_up, hiRom_up]
  by_cases c2 : hiRam b p = true ∧ 0 < r
  · rw [if_pos c2] at hl; cases hl
  · rw [if_neg c2] at hl ⊢
    by_cases c3 : hiRom b p = true
    · rw [if_pos c3]
    · rw [if_neg c3] at hl; cases hl
theorem spot_bank (lay : Int) (n r : Nat) (b p : Int) (h : b = 126 ∨ b = 127) : spot lay n r b p = (0, 0) := by unfold spot; rw [if_pos h]

/-- The bits of an address. -/
theorem low_bits (x : Int) (h0 : 0 ≤ x) (h1 : x ≤ 4294967295) : bits .and .u32 x 8388607 = x % 8388608 := by
  have := u32_and_nat x.toNat 8388607 (by omega) (by omega)
  rw [Int.toNat_of_nonneg h0] at this
  have e : x.toNat &&& 8388607 = x.toNat % 8388608 := Nat.and_two_pow_sub_one_eq_mod x.toNat 23
  rw [e] at this
  rw [show ((8388607 : Nat) : Int) = 8388607 from rfl] at this
  rw [this]; omega

theorem shl8 (x : Int) (h0 : 0 ≤ x) (h1 : x < 8388608) : bits .or .u32 x 8388608 = x + 8388608 := by
  have := u32_or_nat x.toNat 8388608 (by omega) (by omega)
  rw [Int.toNat_of_nonneg h0] at this
  have e : x.toNat ||| 8388608 = x.toNat + 8388608 := by
    have h : 8388608 + x.toNat = 8388608 ||| x.toNat := Nat.two_pow_add_eq_or_of_lt (i := 23) (b := x.toNat) (by omega) 1
    rw [Nat.or_comm, ← h]
    omega
  rw [e] at this
  rw [show ((8388608 : Nat) : Int) = 8388608 from rfl] at this
  rw [this]; omega
theorem or_far (x : Int) (h0 : 0 ≤ x) (h1 : x < 8388608) : bits .or .u32 x 83886080 = x + 83886080 := by
  have := u32_or_nat x.toNat 83886080 (by omega) (by omega)
  rw [Int.toNat_of_nonneg h0] at this
  have e : x.toNat ||| 83886080 = x.toNat + 83886080 := by
    have h : 83886080 + x.toNat = 83886080 ||| x.toNat := Nat.two_pow_add_eq_or_of_lt (i := 24) (b := x.toNat) (by omega) 5
    rw [Nat.or_comm, ← h]
    omega
  rw [e] at this
  rw [show ((83886080 : Nat) : Int) = 83886080 from rfl] at this
  rw [this]; omega

set_option maxRecDepth 100000 in
set_option maxHeartbeats 1000000 in
theorem law (lay rom ram by_ x : Int) (w : World) (x0 : 0 ≤ x) (x1 : x ≤ 4294967295) (l0 : 0 ≤ lay) (l1 : lay ≤ 255) (y0 : 0 ≤ by_) (y1 : by_ ≤ 255) (r0 : -9223372036854775808 ≤ rom) (r1 : rom ≤ 9223372036854775807) :
    Calls Try.prog 7 #[planV lay rom ram by_, .int .u32 x] w fun e w' => e = .returned (.bool true) ∧ Below w.heap.size w w' := by
  have lb := low_bits x x0 x1
  obtain ⟨y, hy⟩ : ∃ y, x % 8388608 = y := ⟨_, rfl⟩
  have z0 : 0 ≤ y := by omega
  have z1 : y < 8388608 := by omega
  rw [hy] at lb
  have o1 := shl8 y z0 z1
  have o2 := or_far y z0 z1
  clear hy
  go_enter Try.func7, Try.ntmps7
  try simp only [List.append_eq, List.cons_append, List.nil_append]
  go_wp2_with fail
  refine (plain_true _).mono ?_
  obtain ⟨W1, hW⟩ : ∃ W1, W1 = w.alloc (.cells #[.int .u8 lay, .int .i64 rom, .int .i64 ram, .int .u8 by_] 23) := ⟨_, rfl⟩
  obtain ⟨B, hB⟩ : ∃ B, B = w.heap.size := ⟨_, rfl⟩
  have c0 : W1.cell? ⟨B, 0, none⟩ = some (.int .u8 lay) := by rw [hW, hB]; simp [go_sem]
  have c1 : W1.cell? ⟨B, 1, none⟩ = some (.int .i64 rom) := by rw [hW, hB]; simp [go_sem]
  have c2 : W1.cell? ⟨B, 2, none⟩ = some (.int .i64 ram) := by rw [hW, hB]; simp [go_sem]
  have c3 : W1.cell? ⟨B, 3, none⟩ = some (.int .u8 by_) := by rw [hW, hB]; simp [go_sem]
  have cb : Below w.heap.size w W1 := by rw [hW]; exact belowA (Below.refl _ _) _
  rw [← hW, ← hB]
  rintro e wp ⟨rfl, hp⟩
  have d0 := keepC hp c0
  have d1 := keepC hp c1
  have d2 := keepC hp c2
  have d3 := keepC hp c3
  have HP := Lib.hid (belowStep cb hp)
  clear c0 c1 c2 c3 cb hW hB hp
  go_wp2_with fail
  refine (made_any lay rom ram by_ _ l0 l1 y0 y1 r0 r1).mono ?_
  have hle := romN_le rom
  obtain ⟨n, hn⟩ : ∃ n, romN rom = n := ⟨_, rfl⟩
  rw [hn] at hle ⊢
  have HN := Lib.hid hn
  clear hn d1 d3
  rintro e w2 (⟨can, gb, gr, gm, ga, gc, cap, g0, f, rfl, bd, a0, hg0, hne, hb⟩ | ⟨can, g0, rfl, hb⟩)
  · unfold canB at can
    obtain ⟨b1, b2, b3, b4, b5, b6⟩ := of_decide_eq_true can
    obtain ⟨r, rfl⟩ := Int.eq_ofNat_of_zero_le b5
    rw [Int.toNat_natCast] at bd
    have e0 := keepC hb d0
    have HB := Lib.hid (belowStep HP.out hb)
    have BD := Lib.hid bd
    clear can bd a0 hb d0 d2 HP b5
    have D1 : ∀ (z : Ext), Calls Try.prog 19 #[.pointer (some ⟨gb, 0, none⟩), .int .u32 y] (moreOf w2 z) _ := fun z => dec_any y lay gb gr gm ga gc n cap r _ (BD.out.kept (below_more z)).cells z0 (by omega) (by omega) b3 b4
    have D2 : ∀ (z : Ext), Calls Try.prog 19 #[.pointer (some ⟨gb, 0, none⟩), .int .u32 (y + 8388608)] (moreOf w2 z) _ := fun z => dec_any (y + 8388608) lay gb gr gm ga gc n cap r _ (BD.out.kept (below_more z)).cells (by omega) (by omega) (by omega) b3 b4
    have D3 : ∀ (z : Ext), Calls Try.prog 19 #[.pointer (some ⟨gb, 0, none⟩), .int .u32 (y + 83886080)] (moreOf w2 z) _ := fun z => dec_any (y + 83886080) lay gb gr gm ga gc n cap r _ (BD.out.kept (below_more z)).cells (by omega) (by omega) (by omega) b3 b4
    have E1 : Calls Try.prog 19 #[.pointer (some ⟨gb, 0, none⟩), .int .u32 y] w2 _ := dec_any y lay gb gr gm ga gc n cap r _ BD.out.cells z0 (by omega) (by omega) b3 b4
    have hfld : ∀ (k a : Int) (w : World), (Instr.field 40 (.agg #[.int .u8 k, .int .i64 a]) 0).run Try.prog w = .ok (.int .u8 k) w := fun _ _ _ => by kernel_rfl
    obtain ⟨b, hb'⟩ : ∃ b, y / 65536 = b := ⟨_, rfl⟩
    obtain ⟨p, hp'⟩ : ∃ p, y % 65536 = p := ⟨_, rfl⟩
    rw [show y / 65536 % 256 = b by omega, hp'] at E1
    simp only [show y / 65536 % 256 = b by omega, hp', show (y + 8388608) / 65536 % 256 = b + 128 by omega, show (y + 8388608) % 65536 = p by omega, show (y + 83886080) / 65536 % 256 = b by omega, show (y + 83886080) % 65536 = p by omega] at D1 D2 D3
    have bb0 : 0 ≤ b := by omega
    have bb1 : b ≤ 127 := by omega
    by_cases bank : b = 126 ∨ b = 127
    · rw [spot_bank _ _ _ _ _ bank] at E1
      have H1 := Lib.hid E1
      have BK : (b == 126) = true ∨ ((b == 126) = false ∧ (b == 127) = true) := by
        rcases bank with h | h
        · exact Or.inl (by simp [h])
        · exact Or.inr ⟨by simp [h], by simp [h]⟩
      have HB' := Lib.hid hb'
      clear E1 D1 D2 D3 bank hp'
      have q : (y / 65536 == 126) = true ∨ ((y / 65536 == 126) = false ∧ (y / 65536 == 127) = true) := by rw [hb']; exact BK
      clear BK hb'
      rcases q with q1 | ⟨q1, q2⟩
      all_goals
        go_wp2_with fail
        refine H1.out.mono ?_
        rintro e w3 ⟨rfl, hb3⟩
        go_wp2_with fail
        go_ret
        exact ⟨rfl, belowStep HB.out hb3⟩
    · have q1 : (y / 65536 == 126) = false := by rw [hb']; simp; omega
      have q2 : (y / 65536 == 127) = false := by rw [hb']; simp; omega
      have b125 : b ≤ 125 := by omega
      by_cases l3 : lay = 3 ∧ (spot lay n r b p).1 = 1
      · obtain ⟨rfl, k1⟩ := l3
        have k2 := spot_up3 n r b p bb0 b125 k1
        obtain ⟨⟨sk, sa⟩, hs⟩ : ∃ s, spot 3 n r b p = s := ⟨_, rfl⟩
        obtain ⟨⟨tk, ta⟩, ht⟩ : ∃ s, spot 3 n r (b + 128) p = s := ⟨_, rfl⟩
        rw [hs] at E1 k1
        simp only [ht] at D2 k2
        simp only at k1
        subst k1 k2
        have H1 := Lib.hid E1
        have H2 := Lib.hid D2
        clear E1 D1 D2 D3 bank hs ht hp' hb'
        go_wp2_with fail
        refine H1.out.mono ?_
        rintro e w3 ⟨rfl, hb3⟩
        obtain ⟨z, rfl⟩ := more_of_below hb3
        clear hb3
        go_wp2_with fail
        refine (H2.out _).mono ?_
        rintro e w4 ⟨rfl, hb4⟩
        go_wp2_with fail
        go_ret
        exact ⟨rfl, belowStep (belowM HB.out _) hb4⟩
      · have hu := spot_up lay n r b p bb0 b125 (by
          by_cases c : lay = 3
          · exact Or.inr (fun h => l3 ⟨c, h⟩)
          · exact Or.inl c)
        simp only [hu] at D2
        obtain ⟨⟨sk, sa⟩, hs⟩ : ∃ s, spot lay n r b p = s := ⟨_, rfl⟩
        rw [hs] at E1 l3
        simp only [hs] at D1 D2 D3
        have H1 := Lib.hid E1
        have G1 := Lib.hid D1
        have G2 := Lib.hid D2
        have G3 := Lib.hid D3
        clear E1 D1 D2 D3 bank hs hp' hb' hu
        by_cases c3 : lay = 3
        · subst c3
          have k1 : (sk == 1) = false := by
            have : ¬ sk = 1 := fun h => l3 ⟨rfl, h⟩
            simpa using this
          clear l3
          go_wp2_with fail
          refine H1.out.mono ?_
          rintro e w3 ⟨rfl, hb3⟩
          obtain ⟨z, rfl⟩ := more_of_below hb3
          clear hb3
          go_wp2_with fail
          refine (quiet_more (G1.out _)).mono ?_
          rintro e w4 ⟨rfl, z4, rfl⟩
          go_wp2_with fail
          refine (quiet_more (G2.out _)).mono ?_
          rintro e w5 ⟨rfl, z5, rfl⟩
          go_wp2_with fail
          refine (quiet_more (G1.out _)).mono ?_
          rintro e w4 ⟨rfl, z4, rfl⟩
          go_wp2_with fail
          refine (quiet_more (G3.out _)).mono ?_
          rintro e w5 ⟨rfl, z5, rfl⟩
          go_wp2_with fail
          go_ret
          exact ⟨rfl, belowM HB.out _⟩
        · have k3 : (lay == 3) = false := by simpa using c3
          clear l3
          go_wp2_with fail
          refine H1.out.mono ?_
          rintro e w3 ⟨rfl, hb3⟩
          obtain ⟨z, rfl⟩ := more_of_below hb3
          clear hb3
          go_wp2_with fail
          refine (quiet_more (G2.out _)).mono ?_
          rintro e w5 ⟨rfl, z5, rfl⟩
          go_wp2_with fail
          refine (quiet_more (G1.out _)).mono ?_
          rintro e w4 ⟨rfl, z4, rfl⟩
          go_wp2_with fail
          refine (quiet_more (G3.out _)).mono ?_
          rintro e w5 ⟨rfl, z5, rfl⟩
          go_wp2_with fail
          go_ret
          exact ⟨rfl, belowM HB.out _⟩
  · have HB := Lib.hid (belowStep HP.out hb)
    clear can hb d0 d2 HP
    go_wp2_with fail
    go_ret
    exact ⟨rfl, HB.out⟩

open Go.WideShapes Go.ChangeAt in
set_option maxRecDepth 100000 in
theorem walk (H : Type) (enc : TypeId × Value → H) (W : World) (base : Nat) (v0 v1 : Value) {d0 d1 : DataW H} {p0 p1 : List MemPlace} (k0 : Value.okWide Try.prog W .any base 23 v0) (h0 : DataW.Trod enc Try.prog W 0 (fun _ => true) true 23 v0 d0 p0)
    (k1 : Value.okWide Try.prog W .any base 35 v1) (h1 : DataW.Trod enc Try.prog W 0 (fun _ => true) true 35 v1 d1 p1) :
    Calls Try.prog 7 #[v0, v1] W fun e w' => e = .returned (.bool true) ∧ Below W.heap.size W w' := by
  obtain ⟨lay, rom, ram, by_, rfl, l0, l1, y0, y1, r0, r1, _, _⟩ := openPlan k0 h0
  obtain ⟨x, rfl, rfl, rfl, hx⟩ := open_int Try.underlying35 k1 h1
  exact law lay rom ram by_ x W (wf_u32 hx).1 (wf_u32 hx).2 l0 l1 y0 y1 r0 r1
end Go.Proofs.Ytbfpacngphjkcaa.boardTurned
