/- The walk of ClockBound. -/
import Derived.Test.YtfigepnpegnhkaaClkO
import Derived.Test.YtfigepnpegnhkaaOpen
import Derived.ChangeOld
namespace Go.Proofs.Ytfigepnpegnhkaa
open Go.RowKit
set_option linter.unusedVariables false
set_option linter.unusedSimpArgs false
set_option maxRecDepth 100000
theorem belowNN {B : Nat} {a w : World} (h : Below B a w) (n : Nat) : Below B a (w.drewN n) := h.trans (below_drewN (Below.refl _ _) n)
/-- How the clock stands behind k moves. -/
structure Bd (n : Nat) (most : Int) (k : Nat) (T : Nat → Int) : Prop where
  lo : ∀ j, j < n → 0 ≤ T j
  hi : ∀ j, j < n → T j ≤ (k : Int) * most
  ap : ∀ a b, a < n → b < n → T a - T b ≤ most
theorem Bd.step {n k x : Nat} {most : Int} {T : Nat → Int} (h : Bd n most k T) (hm : 0 ≤ most) (hx : Least T n x) {δ : Int} (d0 : 0 ≤ δ) (d1 : δ ≤ most) : Bd n most (k + 1) (fun j => if j = x then T x + δ else T j) := by
  have e : ((k + 1 : Nat) : Int) * most = (k : Int) * most + most := by rw [Int.natCast_add, Int.add_mul]; simp
  refine ⟨fun j hj => ?_, fun j hj => ?_, fun a b ha hb => ?_⟩
  · show 0 ≤ if j = x then T x + δ else T j
    split
    · have := h.lo x hx.1; omega
    · exact h.lo j hj
  · show (if j = x then T x + δ else T j) ≤ _
    rw [e]
    split
    · have := h.hi x hx.1; omega
    · have := h.hi j hj; omega
  · show (if a = x then T x + δ else T a) - (if b = x then T x + δ else T b) ≤ most
    split <;> split
    · omega
    · have := hx.le hb; omega
    · have := h.ap a x ha hx.1; omega
    · exact h.ap a b ha hb
set_option maxHeartbeats 8000000 in
theorem clockBound_law (v0 v2 : Value) (n m : Nat) (f tk : Nat → Int) (most : Int) (W : World) (S0 : Sees W .i64 v0 n f) (S2 : Sees W .i64 v2 m tk) (hn : n * 8 ≤ 140737488351232) (hm : m * 8 ≤ 140737488351232) (htk : ∀ j, j < m → -9223372036854775808 ≤ tk j ∧ tk j ≤ 9223372036854775807) (hmo : -9223372036854775808 ≤ most ∧ most ≤ 9223372036854775807) :
    Calls Try.prog 4 #[v0, .int .i64 most, v2] W (Says W (.bool true)) := by
  have SS0 := Lib.hid S0
  have SS2 := Lib.hid S2
  obtain ⟨ao0, c0, rfl, hs0⟩ := S0
  obtain ⟨ao2, c2, rfl, hs2⟩ := S2
  have TK := Lib.hid htk
  obtain ⟨mo0, mo1⟩ := hmo
  have hn44 : n ≤ 17592186044416 := by omega
  have hm44 : m ≤ 17592186044416 := by omega
  clear htk hn hm
  go_enter Try.func4, Try.ntmps4
  try simp only [List.append_eq, List.cons_append, List.nil_append]
  go_wp2_with fail
  refine (two_any W).mono ?_
  rintro e w1 ⟨rfl, b1⟩
  have B1 := Lib.hid b1
  have CP := Lib.hid (copyLongs_any _ n f w1 (SS0.out.kept b1) hn44)
  clear b1
  go_wp2_with fail
  refine CP.out.mono ?_
  rintro e w2 ⟨g0, rfl, hg0, a0, b2⟩
  have B2 := Lib.hid (B1.out.trans (b2.mono B1.out.size))
  have NE := Lib.hid (new_any (.slice (some ⟨g0, 0, none⟩) n n) n f w2 a0.sees)
  clear a0 b2 hg0 CP B1
  go_wp2_with fail
  refine NE.out.mono ?_
  rintro e w3 (⟨c, hc, _, rfl, b3⟩ | ⟨ok, g, b, cap, rfl, hg, hb, ck, b3⟩)
  · have B3 := Lib.hid (B2.out.trans (b3.mono B2.out.size))
    have zc : (c == 0) = false := by rw [beq_eq_false_iff_ne]; exact hc
    have zc2 : (c != 0) = true := by simp [hc]
    clear b3 hc NE
    go_wp2_with fail
    go_ret
    exact ⟨rfl, B3.out⟩
  · have B3 := Lib.hid (B2.out.trans (b3.mono B2.out.size))
    have CK := Lib.hid ck
    have HGB := Lib.hid (show W.heap.size ≤ g ∧ W.heap.size ≤ b from ⟨Nat.le_trans B2.out.size hg, Nat.le_trans B2.out.size hb⟩)
    have OK := Lib.hid ok
    have h1 : 1 ≤ n := ok.1
    have h16 : n ≤ 16 := ok.2.1
    clear b3 ck hg hb ok NE B2 hn44
    by_cases m1 : most < 0
    · have zd : decide (most < 0) = true := decide_eq_true m1
      go_wp2_with fail
      go_ret
      exact ⟨rfl, B3.out⟩
    have zd1 : decide (most < 0) = false := decide_eq_false m1
    by_cases m2 : 1099511627776 < most
    · have zd : decide (1099511627776 < most) = true := decide_eq_true m2
      go_wp2_with fail
      go_ret
      exact ⟨rfl, B3.out⟩
    have zd2 : decide (1099511627776 < most) = false := decide_eq_false m2
    by_cases m3 : 65536 < (m : Int)
    · have zd : decide (65536 < (m : Int)) = true := decide_eq_true m3
      go_wp2_with fail
      go_ret
      exact ⟨rfl, B3.out⟩
    have zd3 : decide (65536 < (m : Int)) = false := decide_eq_false m3
    go_wp2_with fail
    go_loopw [9, 10, 11, 12, 13, 14] (fun i _ _ _ _ _ wr => ∃ (k : Nat) (T : Nat → Int), k ≤ m ∧ i = .int .i64 k ∧ Bd n most k T ∧ Ck wr g b cap n f T ∧ Below W.heap.size W wr) (fun i _ _ _ _ _ _ => m - (intOf i).toNat)
    case atStart => exact ⟨0, fun _ => 0, by omega, rfl, ⟨fun j _ => Int.le_refl _, fun j _ => by simp, fun a b _ _ => by simp; omega⟩, CK.out, B3.out⟩
    case round =>
      obtain ⟨k, T, hk, rfl, bd, ck, hb⟩ := hrel
      have BD := Lib.hid bd
      have C4 := Lib.hid ck
      have B4 := Lib.hid hb
      by_cases hlt : k < m
      · have hz : (k : Int) < m := by omega
        have NX := Lib.hid (next_any ck h1 h16)
        have s2 := SS2.out.kept hb
        clear bd ck hb CK B3
        go_wp2_with fail
        refine NX.out.mono ?_
        rintro e w4 ⟨x, hx, rfl, b4⟩
        have HX := Lib.hid hx
        have hxn : x < n := hx.1
        have C5 := Lib.hid (C4.out.kept b4)
        have B5 := Lib.hid (B4.out.trans (b4.mono B4.out.size))
        have y0 : ∃ bs off, ao0 = some ⟨bs, off, none⟩ ∧ w4.cell? ⟨bs, off + x, none⟩ = some (.int .i64 (f x)) := by
          obtain ⟨bs, off, e, hc⟩ := hs0.resolve_left (by omega)
          exact ⟨bs, off, e, keepC B5.out (hc x hxn)⟩
        have y2 : ∃ bs off, ao2 = some ⟨bs, off, none⟩ ∧ w4.cell? ⟨bs, off + k, none⟩ = some (.int .i64 (tk k)) := by
          obtain ⟨bs, off, e, hc⟩ := hs2.resolve_left (by omega)
          exact ⟨bs, off, e, keepC B5.out (hc k hlt)⟩
        obtain ⟨bs0, of0, rfl, d0⟩ := y0
        obtain ⟨bs2, of2, rfl, d2⟩ := y2
        obtain ⟨t0, t1⟩ := TK.out k hlt
        obtain ⟨s0, s1⟩ := OK.out.2.2 x hxn
        obtain ⟨t, ht⟩ : ∃ t, tk k = t := ⟨_, rfl⟩
        obtain ⟨s, hs⟩ : ∃ s, f x = s := ⟨_, rfl⟩
        rw [ht] at d2 t0 t1
        rw [hs] at d0 s0 s1
        have HS := Lib.hid hs
        have zx : (x : Int) < n := by omega
        have zx2 : decide ((n : Int) ≤ x) = false := decide_eq_false (by omega)
        have zx3 : decide ((x : Int) < 0) = false := decide_eq_false (by omega)
        have zx4 : decide (n ≤ x) = false := decide_eq_false (by omega)
        clear hx b4 NX C4 B4 ht hs s2
        go_upto_if 59 with fail
        go_cut [11] from 59 to 60 (fun v wx => ∃ u : Int, v = .int .i64 u ∧ 0 ≤ u ∧ u ≤ 9223372036854775807 ∧ wx = w4)
        case first =>
          by_cases q : t < 0
          · have qd : decide (t < 0) = true := decide_eq_true q
            go_wp2_with fail
            go_meet
            exact ⟨0, rfl, by omega, by omega, rfl⟩
          · have qd : decide (t < 0) = false := decide_eq_false q
            go_wp2_with fail
            go_meet
            exact ⟨t, rfl, by omega, by omega, rfl⟩
        case rest =>
          obtain ⟨u, rfl, u0, u1, rfl⟩ := hcut
          obtain ⟨qq, hq⟩ : ∃ q, most / s = q := ⟨_, rfl⟩
          have hs0' : (s == 0) = false := by rw [beq_eq_false_iff_ne]; omega
          have hq0 : 0 ≤ qq := by rw [← hq]; exact Int.ediv_nonneg (by omega) (by omega)
          have hq1 : qq ≤ most := by rw [← hq]; exact Int.ediv_le_self _ (by omega)
          have hqm : qq * s ≤ most := by rw [← hq]; exact Int.ediv_mul_le _ (by omega)
          have tq : Int.tdiv most s = qq := by rw [Int.tdiv_eq_ediv_of_nonneg (by omega)]; exact hq
          go_upto_if 67 with fail
          go_cut [11] from 67 to 73 (fun v wx => ∃ u : Int, v = .int .i64 u ∧ 0 ≤ u ∧ u ≤ qq ∧ wx = wc)
          case first =>
            by_cases q : qq < u
            · have qd : decide (qq < u) = true := decide_eq_true q
              go_wp2_with fail
              go_meet
              exact ⟨qq, rfl, by omega, by omega, rfl⟩
            · have qd : decide (qq < u) = false := decide_eq_false q
              go_wp2_with fail
              go_meet
              exact ⟨u, rfl, by omega, by omega, rfl⟩
          case rest =>
            obtain ⟨u', rfl, u0', u1', rfl⟩ := hcut
            go_upto_if 75 with fail
            go_cut [11] from 75 to 76 (fun v wx => ∃ u : Int, v = .int .i64 u ∧ 0 ≤ u ∧ u ≤ qq ∧ u ≤ 1073741824 ∧ wx = wc)
            case first =>
              by_cases q : 1073741824 < u'
              · have qd : decide (1073741824 < u') = true := decide_eq_true q
                go_wp2_with fail
                go_meet
                exact ⟨1073741824, rfl, by omega, by omega, by omega, rfl⟩
              · have qd : decide (1073741824 < u') = false := decide_eq_false q
                go_wp2_with fail
                go_meet
                exact ⟨u', rfl, by omega, by omega, by omega, rfl⟩
            case rest =>
              obtain ⟨z, rfl, z0, z1, z2, rfl⟩ := hcut
              have hzs : s * z ≤ most := by
                have : z * s ≤ qq * s := Int.mul_le_mul_of_nonneg_right z1 (by omega)
                rw [Int.mul_comm s z]; omega
              have hz0 : 0 ≤ s * z := Int.mul_nonneg (by omega) z0
              have hkm : (k : Int) * most ≤ 65536 * 1099511627776 := by
                have h1 : (k : Int) * most ≤ 65536 * most := Int.mul_le_mul_of_nonneg_right (by omega) (by omega)
                omega
              have tx := BD.out.hi x hxn
              have tx0 := BD.out.lo x hxn
              have AD := Lib.hid (add_any C5.out x hxn h16 z z0 z2 (by rw [HS.out]; exact s0) (by rw [HS.out]; exact s1) tx0 (by rw [HS.out]; omega))
              have BS := Lib.hid (BD.out.step (by omega) HX.out hz0 hzs)
              rw [HS.out] at AD
              clear hs0' hq hq0 hq1 hqm tq d0 d2 hzs hz0 hkm tx tx0 BD C5
              go_wp2_with fail
              refine AD.out.mono ?_
              rintro e w5 ⟨rfl, ck, up⟩
              have C6 := Lib.hid ck
              have B6 := Lib.hid (up.out B5.out HGB.out.2)
              have TI := Lib.hid (times_any ck h1 h16)
              clear ck up AD B5
              go_wp2_with fail
              refine TI.out.mono ?_
              rintro e w6 ⟨gt, ct, rfl, hgt, at_, b6⟩
              have C7 := Lib.hid (C6.out.kept b6)
              have B7 := Lib.hid (B6.out.trans (b6.mono B6.out.size))
              have AT := Lib.hid at_
              obtain ⟨T', hT'⟩ : ∃ T', (fun j => if j = x then T x + s * z else T j) = T' := ⟨_, rfl⟩
              rw [hT'] at BS C7 AT
              clear b6 at_ hgt TI B6 C6 hT'
              go_wp2_with fail
              go_loopw [13, 14] (fun i _ wr => ∃ a : Nat, a ≤ n ∧ i = .int .i64 a ∧ Below w6.heap.size w6 wr) (fun i _ _ => n - (intOf i).toNat)
              case atStart => exact ⟨0, by omega, rfl, Below.refl _ _⟩
              case round =>
                obtain ⟨a, ha, rfl, hb1⟩ := hrel
                have D1 := Lib.hid hb1
                clear hb1
                by_cases hla : a < n
                · have za : (a : Int) < n := by omega
                  go_wp2_with fail
                  go_loopw [14] (fun i wr => ∃ b : Nat, b ≤ n ∧ i = .int .i64 b ∧ Below w6.heap.size w6 wr) (fun i _ => n - (intOf i).toNat)
                  case atStart => exact ⟨0, by omega, rfl, D1.out⟩
                  case round =>
                    obtain ⟨c, hc, rfl, hb2⟩ := hrel
                    have D2 := Lib.hid hb2
                    clear D1
                    by_cases hlc : c < n
                    · have zc : (c : Int) < n := by omega
                      have e1 := (AT.out.kept hb2).cell hla
                      have e2 := (AT.out.kept hb2).cell hlc
                      have ap := BS.out.ap a c hla hlc
                      have p1 := BS.out.lo a hla
                      have p2 := BS.out.lo c hlc
                      have hkm : ((k + 1 : Nat) : Int) * most ≤ 65536 * 1099511627776 := by
                        have h1 : ((k + 1 : Nat) : Int) * most ≤ 65536 * most := Int.mul_le_mul_of_nonneg_right (by omega) (by omega)
                        omega
                      have p3 := BS.out.hi a hla
                      have p4 := BS.out.hi c hlc
                      obtain ⟨A, hA⟩ : ∃ A, T' a = A := ⟨_, rfl⟩
                      obtain ⟨C, hC⟩ : ∃ A, T' c = A := ⟨_, rfl⟩
                      rw [hA] at e1 ap p1 p3
                      rw [hC] at e2 ap p2 p4
                      have p5 : A ≤ 72057594037927936 := by omega
                      have p6 : C ≤ 72057594037927936 := by omega
                      have hbl : gt < wr.heap.size := World.block_lt_of_cell? _ _ e1
                      have zq : ¬ most < A - C := by omega
                      have zqd : decide (most < A - C) = false := decide_eq_false zq
                      clear hb2 hA hC p3 p4 hkm ap
                      go_wp2_with fail
                      go_quiet (fail)
                      go_wp2_with fail
                      go_roundw
                      case rel => exact ⟨c + 1, by omega, by go_num, belowNN D2.out nq⟩
                      case measure => simp [intOf]; omega
                    · have hcn : c = n := by omega
                      subst hcn
                      clear hb2
                      go_wp2_with fail
                      go_roundw
                      case rel => exact ⟨a + 1, by omega, by go_num, D2.out⟩
                      case measure => simp [intOf]; omega
                · have han : a = n := by omega
                  subst han
                  go_wp2_with fail
                  go_roundw
                  case rel => exact ⟨k + 1, T', by omega, by go_num, BS.out, C7.out.kept D1.out, B7.out.trans (D1.out.mono B7.out.size)⟩
                  case measure => simp [intOf]; omega
      · have hkm : k = m := by omega
        subst hkm
        clear bd ck hb
        go_wp2_with fail
        go_ret
        exact ⟨rfl, B4.out⟩
end Go.Proofs.Ytfigepnpegnhkaa
namespace Go.Proofs.Ytfigepnpegnhkaa.clockBound
open Go.ChangeShapes Go.WideShapes Go.ChangeAt Go.RowKit
theorem walk (H : Type) (enc : TypeId × Value → H) (W : World) (base : Nat) (v0 v1 v2 : Value) {d0 d1 d2 : DataW H} {p0 p1 p2 : List MemPlace}
    (k0 : Value.okWide Try.prog W .any base 22 v0) (h0 : DataW.Trod enc Try.prog W 0 (fun _ => true) true 22 v0 d0 p0)
    (k1 : Value.okWide Try.prog W .any base 2 v1) (h1 : DataW.Trod enc Try.prog W 0 (fun _ => true) true 2 v1 d1 p1)
    (k2 : Value.okWide Try.prog W .any base 35 v2) (h2 : DataW.Trod enc Try.prog W 0 (fun _ => true) true 35 v2 d2 p2)
    (hsz : (DataW.weightsEach Try.prog [22, 2, 35] [d0, d1, d2]).all (· ≤ reachBytes) = true) :
    Calls Try.prog 4 #[v0, v1, v2] W fun e w' => e = .returned (.bool true) ∧ Below W.heap.size W w' := by
  obtain ⟨n, f, S0, hn, _, _⟩ := openRow (B := 8) Try.underlying22 Try.underlying2 (by kernel_rfl) (by kernel_rfl) k0 h0 (fun elems spare e => sized_slice hsz (j := 0) (t := 22) (e := 2) rfl (by rw [← e]; rfl) Try.underlying22)
  obtain ⟨mo, rfl, rfl, rfl, w1⟩ := open_int Try.underlying2 k1 h1
  obtain ⟨m, tk, S2, hm, _, hw⟩ := openRow (B := 8) Try.underlying35 Try.underlying3 (by kernel_rfl) (by kernel_rfl) k2 h2 (fun elems spare e => sized_slice hsz (j := 2) (t := 35) (e := 3) rfl (by rw [← e]; rfl) Try.underlying35)
  have hmo := wf_i64 w1
  exact clockBound_law v0 v2 n m f tk mo W S0 S2 hn hm (fun j hj => wf_i64 (hw j hj)) hmo
end Go.Proofs.Ytfigepnpegnhkaa.clockBound
