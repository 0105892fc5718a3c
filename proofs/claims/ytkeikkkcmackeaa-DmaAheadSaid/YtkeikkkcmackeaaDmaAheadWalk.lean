/- DmaAhead: the walk. -/
import Derived.Test.YtkeikkkcmackeaaDmaN
import Derived.WalkKit
import Derived.ProofKit
import Derived.OpenShut
namespace Go.Proofs.Ytkeikkkcmackeaa.dmaAhead
open Go.RowKit
set_option linter.unusedVariables false
set_option linter.unusedSimpArgs false
set_option maxRecDepth 100000

set_option maxHeartbeats 8000000 in
theorem law (count at_ : Int) (w : World) (n0 : 0 ≤ count) (n1 : count ≤ 65535) (a0 : -9223372036854775808 ≤ at_) (a1 : at_ ≤ 9223372036854775807) :
    Calls Try.prog 5 #[.int .u16 count, .int .i64 at_] w (Says w (.bool true)) := by
  have AW := Lib.hid awake_any
  obtain ⟨z, hz⟩ : ∃ z : Nat, count % 500 = z := ⟨(count % 500).toNat, by omega⟩
  have z499 : z ≤ 499 := by omega
  have zz : (z : Int) ≤ 499 := by omega
  by_cases h0 : at_ < 0
  · go_enter Try.func5, Try.ntmps5
    try simp only [List.append_eq, List.cons_append, List.nil_append]
    go_wp2_with fail
    refine (AW.out _).mono ?_
    rintro e w1 ⟨rfl, hb⟩
    go_wp2_with fail
    go_ret
    exact ⟨rfl, hb⟩
  by_cases h1 : (z : Int) + 1 ≤ at_
  · go_enter Try.func5, Try.ntmps5
    try simp only [List.append_eq, List.cons_append, List.nil_append]
    go_wp2_with fail
    refine (AW.out _).mono ?_
    rintro e w1 ⟨rfl, hb⟩
    go_wp2_with fail
    go_ret
    exact ⟨rfl, hb⟩
  obtain ⟨a, rfl⟩ := Int.eq_ofNat_of_zero_le (show 0 ≤ at_ by omega)
  have haz : a ≤ z := by omega
  obtain ⟨F96, HT0, HM0⟩ := ahC_is (z + 1) (by omega) (by omega)
  obtain ⟨HBR, HB102, HB103, HB12, HB101⟩ := ahB_is ((z + 1 : Nat) : Int) (by omega) (by omega)
  have RA := ahA_rng ((z + 1 : Nat) : Int) (by omega) (by omega)
  have GF96 := Lib.hid F96
  have GT := Lib.hid HT0
  have GM := Lib.hid HM0
  have GB := Lib.hid (show Rng (frameF 1 (ahA ((z + 1 : Nat) : Int))) ∧ (frameF 1 (ahA ((z + 1 : Nat) : Int))) 102 = 2 ∧ (frameF 1 (ahA ((z + 1 : Nat) : Int))) 103 = 8 ∧ (frameF 1 (ahA ((z + 1 : Nat) : Int))) 12 = 0 ∧ (frameF 1 (ahA ((z + 1 : Nat) : Int))) 101 = 1 from ⟨HBR, HB102, HB103, HB12, HB101⟩)
  have GA := Lib.hid RA
  clear F96 HT0 HM0 HBR HB102 HB103 HB12 HB101 RA a0 a1
  go_enter Try.func5, Try.ntmps5
  try simp only [List.append_eq, List.cons_append, List.nil_append]
  go_wp2_with fail
  refine (new_any w).mono ?_
  rintro e w1 ⟨g, rfl, hg, a', hb1⟩
  have A1 := Lib.hid a'
  have B1 := Lib.hid hb1
  clear a' hb1
  go_wp2_with fail
  refine (write_at A1.out 0 4 (by omega) (by omega) (by rfl) 1).mono ?_
  rintro e w2 ⟨rfl, a', u'⟩
  have A2 := Lib.hid a'
  have B2 := Lib.hid (u'.out B1.out hg)
  clear a' u' A1 B1
  go_wp2_with fail
  refine (write_at A2.out 0 5 (by omega) (by omega) (by rfl) (((z : Int) + 1) % 256)).mono ?_
  rintro e w3 ⟨rfl, a', u'⟩
  have A3 := Lib.hid a'
  have B3 := Lib.hid (u'.out B2.out hg)
  clear a' u' A2 B2
  go_wp2_with fail
  refine (write_at A3.out 0 6 (by omega) (by omega) (by rfl) (((z : Int) + 1) / 256)).mono ?_
  rintro e w4 ⟨rfl, a', u'⟩
  have A4 := Lib.hid a'
  have B4 := Lib.hid (u'.out B3.out hg)
  clear a' u' A3 B3
  go_wp2_with fail
  refine (write_at A4.out 1 4 (by omega) (by omega) (by rfl) 2).mono ?_
  rintro e w5 ⟨rfl, a', u'⟩
  have A5 := Lib.hid a'
  have B5 := Lib.hid (u'.out B4.out hg)
  clear a' u' A4 B4
  go_wp2_with fail
  refine (write_tab A5.out 2).mono ?_
  rintro e w6 ⟨rfl, a', u'⟩
  have a'' : Da w6 g (ahA ((z + 1 : Nat) : Int)) := a'
  have A6 := Lib.hid a''
  have B6 := Lib.hid (u'.out B5.out hg)
  clear a' a'' u' A5 B5
  go_wp2_with fail
  refine (frame_any A6.out GA.out 1 (by omega) rfl).mono ?_
  rintro e w7 ⟨rfl, a', u'⟩
  have A7 := Lib.hid a'
  have B7 := Lib.hid (u'.out B6.out hg)
  clear a' u' A6 B6 GA
  go_wp2_with fail
  refine (done_entry A7.out GB.out.1 1 (by omega) GB.out.2.1 GB.out.2.2.1 (by have := GB.out.2.2.2.1; rw [show 1 * 12 = 12 by rfl, this]; rfl) (by rw [GB.out.2.2.2.2]; decide) 129).mono ?_
  rintro e w8 ⟨rfl, a', u'⟩
  have A8 := Lib.hid a'
  have B8 := Lib.hid (u'.out B7.out hg)
  clear a' u' A7 B7 GB
  go_wp2_with fail
  refine (write_go A8.out 1 GF96.out (by omega) (by omega)).mono ?_
  rintro e w9 ⟨rfl, a', u'⟩
  obtain ⟨f0, hf0⟩ : ∃ f0, put1 (put1 (entF 1 129 (frameF 1 (ahA ((z + 1 : Nat) : Int)))) 97 0) 96 1 = f0 := ⟨_, rfl⟩
  rw [hf0] at a' GT GM
  have A9 := Lib.hid a'
  have B9 := Lib.hid (u'.out B8.out hg)
  clear a' u' A8 B8 GF96 hf0
  go_wp2_with fail
  go_loopw [7] (fun i wr => ∃ (k : Nat) (f : Nat → Int), k ≤ z + 1 ∧ i = .int .i64 k ∧ Da wr g f ∧ Mv 0 0 0 1 0 (z + 1) k f ∧ (k ≤ a → Tb f 1 0 0 0 129 2 0) ∧ Below w.heap.size w wr) (fun i _ => z + 1 - (intOf i).toNat)
  case atStart => exact ⟨0, f0, by omega, rfl, A9.out, GM.out, fun _ => GT.out, B9.out⟩
  case round =>
    obtain ⟨k, f, hk, rfl, a', mv, tb, bw⟩ := hrel
    have A := Lib.hid a'
    have M := Lib.hid mv
    have TB := Lib.hid tb
    have BW := Lib.hid bw
    clear a' mv tb bw A9 GM GT B9
    by_cases hlt : k < z + 1
    · go_upto_if 55 with (fail)
      obtain ⟨W1, hW⟩ : ∃ W1, W1 = wr := ⟨_, rfl⟩
      rw [← hW] at A BW ⊢
      clear hW
      go_cut [8, 9] from 48 to 85 (fun _ _ wx => ∃ f, Da wx g f ∧ Mv 0 0 0 1 0 (z + 1) k f ∧ (k + 1 ≤ a → Tb f 1 0 0 0 129 2 0) ∧ Below w.heap.size w wx)
      case first =>
        by_cases hka : k = a
        · subst hka
          have T1 := TB.out (Nat.le_refl _)
          obtain ⟨T2, K2⟩ := T1.line
          have LI := Lib.hid (line_any A.out T1.r 1 (by omega) (by rw [T1.htb, T1.hen]; decide +kernel) T1.hwy)
          have HT2 := Lib.hid T2
          have HK2 := Lib.hid K2
          clear T1 T2 K2 TB
          go_wp2_with fail
          refine LI.out.mono ?_
          rintro e w2' ⟨rfl, a2, u2⟩
          obtain ⟨f2, hf2⟩ : ∃ f2, linF 1 (lineA (bitOf 1) f) = f2 := ⟨_, rfl⟩
          rw [hf2] at a2 HT2 HK2
          have A2 := Lib.hid a2
          have B2 := Lib.hid (u2.out BW.out hg)
          have NX := Lib.hid (next_table a2 HT2.out.r 1 (by omega) HT2.out.hbf (by rw [show 1 * 12 = 12 by rfl, HT2.out.hm]; rfl) (by rw [HT2.out.hwy]; decide))
          rw [HT2.out.next1] at NX
          clear a2 u2 hf2 LI A BW
          go_wp2_with fail
          refine NX.out.mono ?_
          rintro e w3' ⟨rfl, hb3⟩
          go_wp2_with fail
          obtain ⟨W4, hW⟩ : ∃ W4, W4 = w3'.alloc (.cells #[.int .u8 2, .int .u32 131073, .int .u8 0] 30) := ⟨_, rfl⟩
          obtain ⟨gx, hgx⟩ : ∃ gx, gx = w3'.heap.size := ⟨_, rfl⟩
          have bx4 : Blk W4 gx 30 #[.int .u8 2, .int .u32 131073, .int .u8 0] := by rw [hW, hgx]; exact Blk.new _ _ _
          have A4 : Hid (Da W4 g f2) := by rw [hW]; exact (A2.out.kept hb3).alloc _
          have B4 : Hid (Below w.heap.size w W4) := by rw [hW]; exact belowA (B2.out.trans (hb3.mono B2.out.size)) _
          have hgy : w.heap.size ≤ gx := by rw [hgx]; exact Nat.le_trans B2.out.size hb3.size
          have BX4 := Lib.hid bx4
          have hne : g ≠ gx := by
            obtain ⟨cs, q, _⟩ := A4.out
            exact Blk.ne q bx4 (by decide)
          rw [← hW, ← hgx]
          clear bx4 hb3 A2 B2 NX hW hgx
          refine (done_unit A4.out HT2.out.r 1 (by omega) HT2.out.hbf (by rw [HT2.out.hst]; decide) (by rw [show 1 * 12 = 12 by rfl, HT2.out.hm]; rfl) (by rw [HT2.out.hwy]; decide) 7).mono ?_
          rintro e w5' ⟨rfl, a5, u5⟩
          obtain ⟨T3, K3⟩ := HT2.out.unit
          obtain ⟨f3, hf3⟩ : ∃ f3, uniF 1 f2 = f3 := ⟨_, rfl⟩
          rw [hf3] at a5 T3 K3
          have HT3 := Lib.hid T3
          have HK3 := Lib.hid K3
          have A5 := Lib.hid a5
          have B5 := Lib.hid (u5.out B4.out hg)
          have BX5 := Lib.hid (u5.blk BX4.out (Ne.symm hne))
          have NX2 := Lib.hid (next_table a5 T3.r 1 (by omega) T3.hbf (by rw [show 1 * 12 = 12 by rfl, T3.hm]; rfl) (by rw [T3.hwy]; decide))
          rw [T3.next2] at NX2
          clear a5 u5 T3 K3 hf3 A4 B4 BX4
          go_wp2_with fail
          refine NX2.out.mono ?_
          rintro e w6' ⟨rfl, hb6⟩
          have bx6 := BX5.out.kept hb6
          have y0 := bx6.cell 0
          have y1 := bx6.cell 1
          have y2 := bx6.cell 2
          have q0 := bx6.frozen 0
          have q1 := bx6.frozen 1
          have q2 := bx6.frozen 2
          have BX6 := Lib.hid bx6
          have A6 := Lib.hid (A5.out.kept hb6)
          have B6 := Lib.hid (B5.out.trans (hb6.mono B5.out.size))
          clear bx6 hb6 A5 B5 BX5 NX2
          have bz := ((BX6.out.set_ 0 (.int .u8 1)).set_ 1 (.int .u32 131074)).set_ 2 (.int .u8 0)
          have az := ((A6.out.other (p := ⟨gx, 0, none⟩) (Ne.symm hne) (.int .u8 1)).other (p := ⟨gx, 1, none⟩) (Ne.symm hne) (.int .u32 131074)).other (p := ⟨gx, 2, none⟩) (Ne.symm hne) (.int .u8 0)
          have bwz := belowS (belowS (belowS B6.out (p := ⟨gx, 0, none⟩) hgy (.int .u8 1)) (p := ⟨gx, 1, none⟩) hgy (.int .u32 131074)) (p := ⟨gx, 2, none⟩) hgy (.int .u8 0)
          have u0 := bz.cell 0
          have u1 := bz.cell 1
          have u2 := bz.cell 2
          simp at u0 u1 u2
          have AZ := Lib.hid az
          have BZ := Lib.hid bwz
          clear bz az bwz BX6 A6 B6
          go_wp2_with fail
          refine (done_entry AZ.out HT3.out.r 1 (by omega) HT3.out.hbf HT3.out.hst (by rw [show 1 * 12 = 12 by rfl, HT3.out.hm]; rfl) (by rw [HT3.out.hwy]; decide) 0).mono ?_
          rintro e w7' ⟨rfl, a7, u7'⟩
          obtain ⟨R4, W4', K4⟩ := HT3.out.last
          obtain ⟨f4, hf4⟩ : ∃ f4, entF 1 0 f3 = f4 := ⟨_, rfl⟩
          rw [hf4] at a7 R4 W4' K4
          have KK : Keep f f4 := fun j hj => (K4 j hj).trans ((HK3.out j hj).trans (HK2.out j hj))
          have M4 := Lib.hid (M.out.keep KK R4 W4')
          have A7 := Lib.hid a7
          have B7 := Lib.hid (u7'.out BZ.out hg)
          clear a7 u7' R4 W4' K4 KK hf4 AZ BZ u0 u1 u2
          go_wp2_with fail
          go_meet
          exact ⟨f4, A7.out, M4.out, fun h => absurd h (by omega), B7.out⟩
        · have t : ((k : Int) == (a : Int)) = false := by simp; omega
          go_wp2_with fail
          go_meet
          exact ⟨f, A.out, M.out, fun h => TB.out (by omega), BW.out⟩
      case rest =>
        obtain ⟨f', a', mv, tb, bw⟩ := hcut
        clear A M TB BW
        have M := Lib.hid mv
        have TB := Lib.hid tb
        have NX := Lib.hid (next_mv a' (by omega) mv)
        have hnx : nxT 0 0 1 0 (z + 1) k = ((2 : Int), 65536 + (k : Int), (0 : Int)) := by
          unfold nxT
          rw [if_pos hlt, show kindOf 0 = 2 by rfl, show stepOf 0 = 1 by rfl, show patOf 0 k = 0 by rfl]
          simp only [Prod.mk.injEq, true_and]
          omega
        rw [hnx, decide_eq_true hlt] at NX
        have A := Lib.hid a'
        have BW := Lib.hid bw
        clear hnx a' mv tb bw
        go_wp2_with fail
        refine NX.out.mono ?_
        rintro e w2' ⟨rfl, hb2⟩
        have A2 := Lib.hid (A.out.kept hb2)
        have B2 := Lib.hid (BW.out.trans (hb2.mono BW.out.size))
        clear hb2 NX A BW
        go_wp2_with fail
        refine (done_mv (A2.out.alloc _) (by omega) M.out hlt 0).mono ?_
        rintro e w5' ⟨rfl, a5, u5⟩
        have M5 := Lib.hid (M.out.step (by omega) (by omega) hlt)
        have A5 := Lib.hid a5
        have B5 := Lib.hid (u5.out (belowA B2.out _) hg)
        have T5 : Hid (k + 1 ≤ a → Tb (doneM 0 f') 1 0 0 0 129 2 0) := fun h => (TB.out h).moved M5.out.r
        clear a5 u5 A2 B2 TB
        go_wp2_with fail
        go_roundw
        case rel => exact ⟨k + 1, _, by omega, by go_num, A5.out, M5.out, T5.out, B5.out⟩
        case measure => simp [intOf]; omega
    · have hkn : k = z + 1 := by omega
      subst hkn
      have NX := Lib.hid (next_mv A.out (by omega) M.out)
      have hnx : nxT 0 0 1 0 (z + 1) (z + 1) = (0, 0, 0) := by unfold nxT; rw [if_neg (by omega)]
      rw [hnx, decide_eq_false (by omega)] at NX
      clear hnx
      go_wp2_with fail
      refine NX.out.mono ?_
      rintro e w2' ⟨rfl, hb2⟩
      have B2 := Lib.hid (BW.out.trans (hb2.mono BW.out.size))
      clear hb2 NX A BW TB
      go_wp2_with fail
      refine (AW.out _).mono ?_
      rintro e w4' ⟨rfl, hb4⟩
      have B4 := Lib.hid ((belowA B2.out _).trans (hb4.mono (belowA B2.out _).size))
      clear hb4 B2
      go_wp2_with fail
      go_ret
      exact ⟨rfl, B4.out⟩
open Go.ChangeShapes Go.WideShapes Go.ChangeAt
theorem walk (H : Type) (enc : TypeId × Value → H) (W : World) (base : Nat) (v0 v1 : Value) {d0 d1 : DataW H} {p0 p1 : List MemPlace}
    (k0 : Value.okWide Try.prog W .any base 22 v0) (h0 : DataW.Trod enc Try.prog W 0 (fun _ => true) true 22 v0 d0 p0)
    (k1 : Value.okWide Try.prog W .any base 3 v1) (h1 : DataW.Trod enc Try.prog W 0 (fun _ => true) true 3 v1 d1 p1) :
    Calls Try.prog 5 #[v0, v1] W fun e w' => e = .returned (.bool true) ∧ Below W.heap.size W w' := by
  obtain ⟨count, rfl, rfl, rfl, w0⟩ := open_int Try.underlying22 k0 h0
  have b0 := wf_u16 w0
  obtain ⟨at_, rfl, rfl, rfl, w1⟩ := open_int Try.underlying3 k1 h1
  have b1 := wf_i64 w1
  exact law count at_ W b0.1 b0.2 b1.1 b1.2
end Go.Proofs.Ytkeikkkcmackeaa.dmaAhead
