/- DmaMoves: the walk. -/
import Derived.Test.YtkeikkkcmackeaaDmaF
import Derived.WalkKit
import Derived.ProofKit
import Derived.OpenShut
namespace Go.Proofs.Ytkeikkkcmackeaa.dmaMoves
open Go.RowKit
set_option linter.unusedVariables false
set_option linter.unusedSimpArgs false
set_option maxRecDepth 100000

/-- The channel's bytes, laid. -/
def laid (c : Nat) (m tp bank at_ count : Int) : Nat → Int :=
  put1 (put1 (put1 (put1 (put1 (put1 (put1 (fun _ => 0) (c * 12 + 0) m) (c * 12 + 1) tp) (c * 12 + 2) (at_ % 256)) (c * 12 + 3) (at_ / 256)) (c * 12 + 4) bank) (c * 12 + 5) (count % 256)) (c * 12 + 6) (count / 256)
theorem laid_is (c : Nat) (hc : c < 8) (m tp bank at_ count : Int) (m0 : 0 ≤ m) (m1 : m ≤ 255) (t0 : 0 ≤ tp) (t1 : tp ≤ 255) (b0 : 0 ≤ bank) (b1 : bank ≤ 255) (a0 : 0 ≤ at_) (a1 : at_ ≤ 65535) (n0 : 0 ≤ count) (n1 : count ≤ 65535)
    (n : Nat) (hn0 : (count = 0 ∧ n = 65536) ∨ ((n : Int) = count ∧ 0 < n ∧ n < 65536)) : laid c m tp bank at_ count 96 = 0 ∧ Mv c m tp bank at_ n 0 (put1 (put1 (laid c m tp bank at_ count) 97 0) 96 (bitOf c)) := by
  have R : Rng (laid c m tp bank at_ count) := ((((((rng_zero.put1 _ m0 m1).put1 _ t0 t1).put1 _ (by omega) (by omega)).put1 _ (by omega) (by omega)).put1 _ b0 b1).put1 _ (by omega) (by omega)).put1 _ (by omega) (by omega)
  refine ⟨?_, Mv.init hc R ?_ ?_ ?_ ?_ ?_ ?_ n hn0⟩
  · unfold laid; rw [put1_ne (by omega), put1_ne (by omega), put1_ne (by omega), put1_ne (by omega), put1_ne (by omega), put1_ne (by omega), put1_ne (by omega)]
  · unfold laid; rw [put1_ne (by omega), put1_ne (by omega), put1_ne (by omega), put1_ne (by omega), put1_ne (by omega), put1_ne (by omega), put1_at, if_pos (by omega)]
  · unfold laid; rw [put1_ne (by omega), put1_ne (by omega), put1_ne (by omega), put1_ne (by omega), put1_ne (by omega), put1_at, if_pos rfl]
  · unfold laid; rw [put1_ne (by omega), put1_ne (by omega), put1_at, if_pos rfl]
  · unfold wordOf laid
    rw [put1_ne (by omega), put1_ne (by omega), put1_ne (by omega), put1_ne (by omega), put1_at, if_pos rfl, put1_ne (by omega), put1_ne (by omega), put1_ne (by omega), put1_at, if_pos (by omega)]
    omega
  · unfold wordOf laid
    rw [put1_ne (by omega), put1_at, if_pos rfl, put1_at, if_pos (by omega)]
    omega
  · unfold laid; rw [put1_ne (by omega), put1_ne (by omega), put1_ne (by omega), put1_ne (by omega), put1_ne (by omega), put1_ne (by omega), put1_ne (by omega)]

theorem step_cases (m : Int) : stepOf m = 1 ∨ stepOf m = -1 ∨ stepOf m = 0 := by
  unfold stepOf; split
  · exact Or.inl rfl
  · split
    · exact Or.inr (Or.inl rfl)
    · exact Or.inr (Or.inr rfl)
theorem ks_rng (m : Int) (k : Nat) (hk : k ≤ 65536) : -65536 ≤ (k : Int) * stepOf m ∧ (k : Int) * stepOf m ≤ 65536 := by
  rcases step_cases m with h | h | h <;> rw [h] <;> omega

set_option maxHeartbeats 8000000 in
theorem law (c m tp bank at_ count : Int) (w : World) (c0 : -9223372036854775808 ≤ c) (c1 : c ≤ 9223372036854775807) (m0 : 0 ≤ m) (m1 : m ≤ 255) (t0 : 0 ≤ tp) (t1 : tp ≤ 255) (b0 : 0 ≤ bank) (b1 : bank ≤ 255) (a0 : 0 ≤ at_) (a1 : at_ ≤ 65535) (n0 : 0 ≤ count) (n1 : count ≤ 65535) :
    Calls Try.prog 3 #[.int .i64 c, .int .u8 m, .int .u8 tp, .int .u8 bank, .int .u16 at_, .int .u16 count] w (Says w (.bool true)) := by
  have AW := Lib.hid awake_any
  by_cases hc0 : c < 0
  · go_enter Try.func3, Try.ntmps3
    try simp only [List.append_eq, List.cons_append, List.nil_append]
    go_wp2_with fail
    refine (AW.out _).mono ?_
    rintro e w1 ⟨rfl, hb⟩
    go_wp2_with fail
    go_ret
    exact ⟨rfl, hb⟩
  by_cases hc7 : 7 < c
  · go_enter Try.func3, Try.ntmps3
    try simp only [List.append_eq, List.cons_append, List.nil_append]
    go_wp2_with fail
    refine (AW.out _).mono ?_
    rintro e w1 ⟨rfl, hb⟩
    go_wp2_with fail
    go_ret
    exact ⟨rfl, hb⟩
  obtain ⟨c, rfl⟩ := Int.eq_ofNat_of_zero_le (show 0 ≤ c by omega)
  have hc : c < 8 := by omega
  have hbit : (2 : Int) ^ c % 256 = bitOf c := by
    have h : ∀ c : Fin 8, (2 : Int) ^ c.val % 256 = bitOf c.val := by decide +kernel
    exact h ⟨c, hc⟩
  have hn : ∃ n : Nat, (count = 0 ∧ n = 65536) ∨ ((n : Int) = count ∧ 0 < n ∧ n < 65536) := by
    by_cases h : count = 0
    · exact ⟨65536, Or.inl ⟨h, rfl⟩⟩
    · exact ⟨count.toNat, Or.inr ⟨by omega, by omega, by omega⟩⟩
  obtain ⟨n, hn⟩ := hn
  obtain ⟨L96, MV0⟩ := laid_is c hc m tp bank at_ count m0 m1 t0 t1 b0 b1 a0 a1 n0 n1 n hn
  have HL96 := Lib.hid L96
  have HMV0 := Lib.hid MV0
  have HBIT := Lib.hid hbit
  clear L96 MV0 hbit c0 c1 hc0 hc7
  have c0 : 0 ≤ (c : Int) := by omega
  have c7 : (c : Int) ≤ 7 := by omega
  obtain ⟨q, hq⟩ : ∃ q : Bool, (bits .and .u8 m 128 != 0) = q := ⟨_, rfl⟩
  have HK : Hid (kindOf m = if q then 3 else 2) := by unfold kindOf; rw [hq]; exact rfl
  have hn2 : (count = 0 ∧ n = 65536) ∨ (∃ h : (n : Int) = count, 0 < n ∧ n < 65536) := by
    rcases hn with h | ⟨h, k⟩
    · exact Or.inl h
    · exact Or.inr ⟨h, k⟩
  go_enter Try.func3, Try.ntmps3
  try simp only [List.append_eq, List.cons_append, List.nil_append]
  go_wp2_with fail
  refine (new_any w).mono ?_
  rintro e w1 ⟨g, rfl, hg, a', hb1⟩
  have A1 := Lib.hid a'
  have B1 := Lib.hid hb1
  clear a' hb1
  go_wp2_with fail
  refine (write_at A1.out c 0 hc (by omega) (by omega) m).mono ?_
  rintro e w2 ⟨rfl, a', u'⟩
  have A2 := Lib.hid a'
  have B2 := Lib.hid (u'.out B1.out hg)
  clear a' u' A1 B1
  go_wp2_with fail
  refine (write_at A2.out c 1 hc (by omega) (by omega) tp).mono ?_
  rintro e w3 ⟨rfl, a', u'⟩
  have A3 := Lib.hid a'
  have B3 := Lib.hid (u'.out B2.out hg)
  clear a' u' A2 B2
  go_wp2_with fail
  refine (write_at A3.out c 2 hc (by omega) (by omega) (at_ % 256)).mono ?_
  rintro e w4 ⟨rfl, a', u'⟩
  have A4 := Lib.hid a'
  have B4 := Lib.hid (u'.out B3.out hg)
  clear a' u' A3 B3
  go_wp2_with fail
  refine (write_at A4.out c 3 hc (by omega) (by omega) (at_ / 256)).mono ?_
  rintro e w5 ⟨rfl, a', u'⟩
  have A5 := Lib.hid a'
  have B5 := Lib.hid (u'.out B4.out hg)
  clear a' u' A4 B4
  go_wp2_with fail
  refine (write_at A5.out c 4 hc (by omega) (by omega) bank).mono ?_
  rintro e w6 ⟨rfl, a', u'⟩
  have A6 := Lib.hid a'
  have B6 := Lib.hid (u'.out B5.out hg)
  clear a' u' A5 B5
  go_wp2_with fail
  refine (write_at A6.out c 5 hc (by omega) (by omega) (count % 256)).mono ?_
  rintro e w7 ⟨rfl, a', u'⟩
  have A7 := Lib.hid a'
  have B7 := Lib.hid (u'.out B6.out hg)
  clear a' u' A6 B6
  go_wp2_with fail
  refine (write_at A7.out c 6 hc (by omega) (by omega) (count / 256)).mono ?_
  rintro e w8 ⟨rfl, a', u'⟩
  have a'' : Da w8 g (laid c m tp bank at_ count) := a'
  have A8 := Lib.hid a''
  have B8 := Lib.hid (u'.out B7.out hg)
  clear a' a'' u' A7 B7
  go_wp2_with fail
  refine (write_go A8.out (2 ^ c % 256) HL96.out (by have := (bit_rng c hc).1; have := HBIT.out; omega) (by have := (bit_rng c hc).2.1; have := HBIT.out; omega)).mono ?_
  rw [HBIT.out]
  rintro e w9 ⟨rfl, a', u'⟩
  obtain ⟨f0, hf0⟩ : ∃ f0, put1 (put1 (laid c m tp bank at_ count) 97 0) 96 (bitOf c) = f0 := ⟨_, rfl⟩
  rw [hf0] at a' HMV0
  have A9 := Lib.hid a'
  have B9 := Lib.hid (u'.out B8.out hg)
  clear a' u' A8 B8 hf0 HL96
  have HNN : Hid (n ≤ 65536) := by
    show n ≤ 65536
    rcases hn with ⟨_, h⟩ | ⟨_, _, h⟩ <;> omega
  clear hn
  obtain ⟨kd, hkd⟩ : ∃ kd, kindOf m = kd := ⟨_, rfl⟩
  rw [hkd] at HK
  go_upto_if 86 with (fail)
  go_cut [15] from 85 to 86 (fun s15 wx => s15 = .int .i64 n ∧ w9 = wx)
  case first =>
    rcases hn2 with ⟨h1, h2⟩ | ⟨h1, h2, h3⟩
    · subst h1
      have HN := Lib.hid h2
      clear h2
      go_wp2_with fail
      go_meet
      rw [HN.out]
      exact ⟨rfl, rfl⟩
    · have hnz : (count == 0) = false := by simp; omega
      have HN := Lib.hid h1
      clear h1
      go_wp2_with fail
      go_meet
      rw [HN.out]
      exact ⟨rfl, rfl⟩
  case rest =>
    obtain ⟨rfl, rfl⟩ := hcut
    clear hn2
    go_upto_if 89 with (fail)
    go_cut [16] from 87 to 89 (fun s16 wx => s16 = .int .u8 kd ∧ w9 = wx)
    case first =>
      cases q
      all_goals
        go_wp2_with fail
        go_meet
        rw [HK.out]
        exact ⟨rfl, rfl⟩
    case rest =>
    obtain ⟨rfl, rfl⟩ := hcut
    clear HK hq
    go_wp2_with fail
    go_loopw [17] (fun i wr => ∃ (k : Nat) (f : Nat → Int), k ≤ n ∧ i = .int .i64 k ∧ Da wr g f ∧ Mv c m tp bank at_ n k f ∧ Below w.heap.size w wr) (fun i _ => n - (intOf i).toNat)
    case atStart => exact ⟨0, f0, by omega, rfl, A9.out, HMV0.out, B9.out⟩
    case round =>
      obtain ⟨k, f, hk, rfl, a, mv, bw⟩ := hrel
      have A := Lib.hid a
      have M := Lib.hid mv
      have BW := Lib.hid bw
      clear a mv bw A9 HMV0 B9
      have hk6 : k ≤ 65536 := by have := HNN.out; omega
      by_cases hlt : k < n
      · have NX := Lib.hid (next_mv A.out hc M.out)
        have hnx : nxT m tp bank at_ n k = (kindOf m, bank * 65536 + (at_ + k * stepOf m) % 65536, (tp + patOf m k) % 256) := by unfold nxT; rw [if_pos hlt]
        rw [hnx, decide_eq_true hlt, hkd] at NX
        obtain ⟨s0, s1⟩ := ks_rng m k hk6
        obtain ⟨p0, p3⟩ := patOf_rng m k
        have ST := Lib.hid (fun w => step_any m w m0 m1)
        have PT := Lib.hid (fun w => port_any m k w m0 m1 hk6)
        obtain ⟨pt, hpt⟩ : ∃ pt, patOf m k = pt := ⟨_, rfl⟩
        rw [hpt] at NX PT p0 p3
        have hks : ∃ ks, (k : Int) * stepOf m = ks := ⟨_, rfl⟩
        obtain ⟨ks, hks⟩ := hks
        rw [hks] at NX s0 s1
        obtain ⟨st, hst⟩ : ∃ st, stepOf m = st := ⟨_, rfl⟩
        rw [hst] at ST hks
        have hor := or32 bank ((at_ + ks) % 65536) b0 b1 (by omega) (by omega)
        have hwz : IntKind.u16.wrap (at_ + ks) % 4294967296 = (at_ + ks) % 65536 := by rw [IntKind.wrap_u16]; omega
        clear hnx hpt hst
        go_wp2_with fail
        refine NX.out.mono ?_
        rintro e w1' ⟨rfl, hb1⟩
        have A1 := Lib.hid (A.out.kept hb1)
        have B1 := Lib.hid (BW.out.trans (hb1.mono BW.out.size))
        clear hb1 NX A BW
        go_wp2_with fail
        obtain ⟨W2, hW⟩ : ∃ W2, W2 = w1'.alloc (.cells #[.int .u8 kd, .int .u32 (bank * 65536 + (at_ + ks) % 65536), .int .u8 ((tp + pt) % 256)] 30) := ⟨_, rfl⟩
        obtain ⟨gx, hgx⟩ : ∃ gx, gx = w1'.heap.size := ⟨_, rfl⟩
        have X2 : Hid (Blk W2 gx 30 #[.int .u8 kd, .int .u32 (bank * 65536 + (at_ + ks) % 65536), .int .u8 ((tp + pt) % 256)]) := by rw [hW, hgx]; exact Blk.new _ _ _
        have A2 : Hid (Da W2 g f) := by rw [hW]; exact A1.out.alloc _
        have B2 : Hid (Below w.heap.size w W2) := by rw [hW]; exact belowA B1.out _
        rw [← hW, ← hgx]
        clear hW hgx A1 B1
        refine (ST.out _).mono ?_
        rintro e w3 ⟨rfl, hb3⟩
        have x0 := (X2.out.kept hb3).cell 0
        have x1 := (X2.out.kept hb3).cell 1
        have x2 := (X2.out.kept hb3).cell 2
        have hgx := (X2.out.kept hb3).lt
        have A3 := Lib.hid (A2.out.kept hb3)
        have B3 := Lib.hid (B2.out.trans (hb3.mono B2.out.size))
        clear hb3 A2 B2 X2 ST
        obtain ⟨ad, had⟩ : ∃ ad, bank * 65536 + (at_ + ks) % 65536 = ad := ⟨_, rfl⟩
        rw [had] at x1 hor
        clear had
        go_upto_region 24 with (fail)
        go_cut [126] from 113 to 126 (fun s wx => s = .bool false ∧ Below w3.heap.size w3 wx)
        case first =>
          refine wp_region_more (by kernel_rfl) (by kernel_rfl) ?_
          repeat (go_big_quiet_step ((first
            | (go_at_call 13; exact quiet_more (PT.out _)))))
          refine wpQuiet_nil ?_
          rintro _ ⟨nq, rfl⟩
          go_wp2_with fail
          go_meet
          exact ⟨rfl, by repeat (first | exact Below.refl _ _ | apply belowM | apply belowA)⟩
        case rest =>
          obtain ⟨rfl, hb4⟩ := hcut
          have A4 := Lib.hid (A3.out.kept hb4)
          have B4 := Lib.hid (B3.out.trans (hb4.mono B3.out.size))
          clear hb4 A3 B3 x0 x1 x2 hgx PT
          go_wp2_with fail
          refine (done_mv A4.out hc M.out hlt _).mono ?_
          rintro e w5 ⟨rfl, a5, u5⟩
          have M5 := Lib.hid (M.out.step hc HNN.out hlt)
          have A5 := Lib.hid a5
          have B5 := Lib.hid (u5.out B4.out hg)
          clear a5 u5 A4 B4
          go_wp2_with fail
          go_roundw
          case rel => exact ⟨k + 1, _, by omega, by go_num, A5.out, M5.out, B5.out⟩
          case measure => simp [intOf]; omega
      · have hkn : k = n := by omega
        subst hkn
        have NX := Lib.hid (next_mv A.out hc M.out)
        have hnx : nxT m tp bank at_ k k = (0, 0, 0) := by unfold nxT; rw [if_neg (by omega)]
        rw [hnx, decide_eq_false (by omega)] at NX
        obtain ⟨_, z5, z6⟩ := M.out.over
        have R5 : Hid (∀ w', Da w' g f → Calls Try.prog 15 #[.pointer (some ⟨g, 0, none⟩), .int .u16 (17152 + 16 * c + 5)] w' (Says w' (.tuple #[.int .u8 0, .bool true]))) := by
          intro w' a'
          have h := readp_any a' (17152 + 16 * c + 5) (by omega) (by omega)
          have hp : plc (17152 + 16 * (c : Int) + 5) = some (c * 12 + 5) := by unfold plc; rw [if_neg (by omega), if_neg (by omega), if_neg (by omega)]; congr 1; omega
          unfold rdV at h
          rw [hp] at h
          simp only [z5] at h
          exact h
        have R6 : Hid (∀ w', Da w' g f → Calls Try.prog 15 #[.pointer (some ⟨g, 0, none⟩), .int .u16 (17152 + 16 * c + 6)] w' (Says w' (.tuple #[.int .u8 0, .bool true]))) := by
          intro w' a'
          have h := readp_any a' (17152 + 16 * c + 6) (by omega) (by omega)
          have hp : plc (17152 + 16 * (c : Int) + 6) = some (c * 12 + 6) := by unfold plc; rw [if_neg (by omega), if_neg (by omega), if_neg (by omega)]; congr 1; omega
          unfold rdV at h
          rw [hp] at h
          simp only [z6] at h
          exact h
        clear hnx z5 z6
        go_wp2_with fail
        refine NX.out.mono ?_
        rintro e w1' ⟨rfl, hb1⟩
        have A1 := Lib.hid (A.out.kept hb1)
        have B1 := Lib.hid (BW.out.trans (hb1.mono BW.out.size))
        clear hb1 NX A BW
        go_wp2_with fail
        refine (R5.out _ (A1.out.alloc _)).mono ?_
        rintro e w2' ⟨rfl, hb2⟩
        have A2 := Lib.hid ((A1.out.alloc _).kept hb2)
        have B2 := Lib.hid ((belowA B1.out _).trans (hb2.mono (belowA B1.out _).size))
        clear hb2 A1 B1 R5
        go_wp2_with fail
        refine (R6.out _ A2.out).mono ?_
        rintro e w3' ⟨rfl, hb3⟩
        have B3 := Lib.hid (B2.out.trans (hb3.mono B2.out.size))
        clear hb3 A2 B2 R6
        go_wp2_with fail
        refine (AW.out _).mono ?_
        rintro e w4' ⟨rfl, hb4⟩
        have B4 := Lib.hid (B3.out.trans (hb4.mono B3.out.size))
        clear hb4 B3
        go_wp2_with fail
        go_ret
        exact ⟨rfl, B4.out⟩
open Go.ChangeShapes Go.WideShapes Go.ChangeAt
theorem walk (H : Type) (enc : TypeId × Value → H) (W : World) (base : Nat) (v0 v1 v2 v3 v4 v5 : Value) {d0 d1 d2 d3 d4 d5 : DataW H} {p0 p1 p2 p3 p4 p5 : List MemPlace}
    (k0 : Value.okWide Try.prog W .any base 3 v0) (h0 : DataW.Trod enc Try.prog W 0 (fun _ => true) true 3 v0 d0 p0)
    (k1 : Value.okWide Try.prog W .any base 5 v1) (h1 : DataW.Trod enc Try.prog W 0 (fun _ => true) true 5 v1 d1 p1)
    (k2 : Value.okWide Try.prog W .any base 5 v2) (h2 : DataW.Trod enc Try.prog W 0 (fun _ => true) true 5 v2 d2 p2)
    (k3 : Value.okWide Try.prog W .any base 5 v3) (h3 : DataW.Trod enc Try.prog W 0 (fun _ => true) true 5 v3 d3 p3)
    (k4 : Value.okWide Try.prog W .any base 22 v4) (h4 : DataW.Trod enc Try.prog W 0 (fun _ => true) true 22 v4 d4 p4)
    (k5 : Value.okWide Try.prog W .any base 22 v5) (h5 : DataW.Trod enc Try.prog W 0 (fun _ => true) true 22 v5 d5 p5) :
    Calls Try.prog 3 #[v0, v1, v2, v3, v4, v5] W fun e w' => e = .returned (.bool true) ∧ Below W.heap.size W w' := by
  obtain ⟨c, rfl, rfl, rfl, w0⟩ := open_int Try.underlying3 k0 h0
  have b0 := wf_i64 w0
  obtain ⟨m, rfl, rfl, rfl, w1⟩ := open_int Try.underlying5 k1 h1
  have b1 := wf_u8 w1
  obtain ⟨tp, rfl, rfl, rfl, w2⟩ := open_int Try.underlying5 k2 h2
  have b2 := wf_u8 w2
  obtain ⟨bank, rfl, rfl, rfl, w3⟩ := open_int Try.underlying5 k3 h3
  have b3 := wf_u8 w3
  obtain ⟨at_, rfl, rfl, rfl, w4⟩ := open_int Try.underlying22 k4 h4
  have b4 := wf_u16 w4
  obtain ⟨count, rfl, rfl, rfl, w5⟩ := open_int Try.underlying22 k5 h5
  have b5 := wf_u16 w5
  exact law c m tp bank at_ count W b0.1 b0.2 b1.1 b1.2 b2.1 b2.2 b3.1 b3.2 b4.1 b4.2 b5.1 b5.2
end Go.Proofs.Ytkeikkkcmackeaa.dmaMoves
