/- The walk of ClockKeeps. -/
import Derived.Test.YtfigepnpegnhkaaClkQ
namespace Go.Proofs.Ytfigepnpegnhkaa
open Go.RowKit
set_option linter.unusedVariables false
set_option linter.unusedSimpArgs false
set_option maxRecDepth 100000
theorem rowN_congr {f g : Nat → Int} {k : Nat} (h : ∀ j, j < k → f j = g j) : rowN f k = rowN g k := by
  unfold rowN
  refine List.map_congr_left fun j hj => ?_
  rw [h j (List.mem_range.1 hj)]
theorem least_shift {T : Nat → Int} {n x : Nat} (l : Int) (h : Least T n x) : Least (fun j => T j - l) n x := ⟨h.1, fun j hj hne => by
  have := h.2 j hj hne
  unfold ahd at *
  dsimp only
  omega⟩
theorem lost_shift {n i : Nat} {S T : Nat → Int} {t : Int} (l : Int) : Lost n S (fun j => T j - l) i t ↔ Lost n S T i t := by
  unfold Lost
  constructor <;> rintro ⟨k, h1, h2, h3⟩ <;> exact ⟨k, h1, h2, by dsimp only at *; omega⟩
theorem room_shift {n i : Nat} {S T : Nat → Int} {r : Int} (l : Int) (h : IsRoom n S (fun j => T j - l) i r) : IsRoom n S T i r :=
  ⟨h.1, h.2.1, fun t t0 t1 hl => h.2.2.1 t t0 t1 ((lost_shift l).2 hl), fun hr => (lost_shift l).1 (h.2.2.2 hr)⟩
set_option maxHeartbeats 8000000 in
theorem clockKeeps_law (v0 v1 : Value) (n m : Nat) (f f1 : Nat → Int) (W : World) (S0 : Sees W .i64 v0 n f) (S1 : Sees W .i64 v1 m f1) (hn : n * 8 ≤ 140737488351232) (hm : m * 8 ≤ 140737488351232) :
    Calls Try.prog 6 #[v0, v1] W (Says W (.bool true)) := by
  have SS0 := Lib.hid S0
  have SS1 := Lib.hid S1
  obtain ⟨ao0, c0, rfl, hs0⟩ := S0
  obtain ⟨ao1, c1, rfl, hs1⟩ := S1
  have hn44 : n ≤ 17592186044416 := by omega
  have hm44 : m ≤ 17592186044416 := by omega
  clear hn hm hs0 hs1
  go_enter Try.func6, Try.ntmps6
  try simp only [List.append_eq, List.cons_append, List.nil_append]
  go_wp2_with fail
  refine (two_any W).mono ?_
  rintro e w1 ⟨rfl, b1⟩
  have B1 := Lib.hid b1
  have CP := Lib.hid (copyLongs_any _ n f w1 (SS0.out.kept b1) hn44)
  clear b1
  go_wp2_with fail
  refine CP.out.mono ?_
  rintro e w2 ⟨g0, rfl, hg0, a0, b2⟩
  have B2 := Lib.hid (B1.out.trans (b2.mono B1.out.size))
  have NE := Lib.hid (new_any (.slice (some ⟨g0, 0, none⟩) n n) n f w2 a0.sees)
  clear a0 b2 hg0 CP B1
  go_wp2_with fail
  refine NE.out.mono ?_
  rintro e w3 (⟨c, hc, _, rfl, b3⟩ | ⟨ok, g, b, cap, rfl, hg, hb, ck, b3⟩)
  · have B3 := Lib.hid (B2.out.trans (b3.mono B2.out.size))
    have zc : (c == 0) = false := by rw [beq_eq_false_iff_ne]; exact hc
    have zc2 : (c != 0) = true := by simp [hc]
    clear b3 hc NE
    go_wp2_with fail
    go_ret
    exact ⟨rfl, B3.out⟩
  · have B3 := Lib.hid (B2.out.trans (b3.mono B2.out.size))
    have CK := Lib.hid ck
    have HGB := Lib.hid (show W.heap.size ≤ g ∧ W.heap.size ≤ b from ⟨Nat.le_trans B2.out.size hg, Nat.le_trans B2.out.size hb⟩)
    have OK := Lib.hid ok
    have h1 : 1 ≤ n := ok.1
    have h16 : n ≤ 16 := ok.2.1
    have CP := Lib.hid (copyLongs_any _ m f1 w3 (SS1.out.kept B3.out) hm44)
    clear b3 ck hg hb ok NE B2 hn44
    go_wp2_with fail
    refine CP.out.mono ?_
    rintro e w4 ⟨g1, rfl, hg1, a1, b4⟩
    have B4 := Lib.hid (B3.out.trans (b4.mono B3.out.size))
    have C4 := Lib.hid (CK.out.kept b4)
    have hgb : g1 ≠ b := by have := CK.out.arr.lt; omega
    have SE := Lib.hid (set_any C4.out h1 h16 (.slice (some ⟨g1, 0, none⟩) m m) m f1 a1.sees hm44 (fun ao c e => by
      have e2 : (some (⟨g1, 0, none⟩ : Addr)) = some ao := by injection e
      injection e2 with e3
      rw [← e3]; exact hgb))
    clear b4 a1 CP B3 CK hg1 hgb
    go_wp2_with fail
    refine SE.out.mono ?_
    rintro e w5 (⟨c, hc, rfl, b5⟩ | ⟨sok, rfl, ck, u5⟩)
    · have B5 := Lib.hid (B4.out.trans (b5.mono B4.out.size))
      have hc0 : c ≠ 0 := by rcases hc with h | h <;> omega
      have zc : (c == 0) = false := by rw [beq_eq_false_iff_ne]; exact hc0
      have zc2 : (c != 0) = true := by simp [hc0]
      clear b5 hc hc0 SE
      go_wp2_with fail
      go_ret
      exact ⟨rfl, B5.out⟩
    · have B5 := Lib.hid (u5.out B4.out HGB.out.2)
      have C5 := Lib.hid ck
      have SOK := Lib.hid sok
      have TI := Lib.hid (times_any ck h1 h16)
      clear u5 ck sok SE C4 B4
      go_wp2_with fail
      refine TI.out.mono ?_
      rintro e w6 ⟨gA, cA, rfl, hgA, aA, b6⟩
      have AA := Lib.hid aA
      have C6 := Lib.hid (C5.out.kept b6)
      have B6 := Lib.hid (B5.out.trans (b6.mono B5.out.size))
      have NX := Lib.hid (next_any C6.out h1 h16)
      have hAb : gA ≠ b := by have := C5.out.arr.lt; omega
      have HAB := Lib.hid hAb
      clear b6 aA hgA hAb TI C5 B5
      go_wp2_with fail
      refine NX.out.mono ?_
      rintro e w7 ⟨x, hx, rfl, b7⟩
      have HX := Lib.hid hx
      have hxn : x < n := hx.1
      have C7 := Lib.hid (C6.out.kept b7)
      have A7 := Lib.hid (AA.out.kept b7)
      have B7 := Lib.hid (B6.out.trans (b7.mono B6.out.size))
      clear b7 hx NX C6 B6 AA
      obtain ⟨i0, hi, hz0, hz1, hz2⟩ := info_parts infoI
      go_wp2_with fail
      go_loopw [9, 10, 11, 12] (fun s i _ _ wr => ∃ (k : Nat) (R : Nat → Int), k ≤ n ∧ i = .int .i64 k ∧ (∀ j, j < k → IsRoom n f f1 j (R j)) ∧ wr.ownsRow w7.heap.size 3 1 s k (rowN R k) ∧ Below w7.heap.size w7 wr) (fun _ i _ _ _ => n - (intOf i).toNat)
      case atStart => exact ⟨0, fun _ => 0, by omega, rfl, fun j hj => absurd hj (by omega), ownsRow_nil' _ _ _ _, Below.refl _ _⟩
      case round =>
        obtain ⟨k, R, hk, rfl, hR, own, hb⟩ := hrel
        have HR := Lib.hid hR
        have OWN := Lib.hid own
        have D0 := Lib.hid hb
        have LE := Lib.hid (fun w' (h : Below wr.heap.size wr w') => len_any ((C7.out.kept hb).kept h))
        clear hR own hb
        by_cases hlt : k < n
        · have zk : (k : Int) < n := by omega
          go_wp2_with fail
          refine (LE.out _ (Below.refl _ _)).mono ?_
          rintro e w8 ⟨rfl, b8⟩
          have D1 := Lib.hid (D0.out.trans (b8.mono D0.out.size))
          have OW1 := Lib.hid (ownsKept OWN.out b8)
          have RM := Lib.hid (room_any (C7.out.kept D1.out) h16 k hlt OK.out.2.2 SOK.out.2)
          clear b8 LE OWN D0
          go_wp2_with fail
          refine RM.out.mono ?_
          rintro e w9 ⟨r, hr, rfl, b9⟩
          have D2 := Lib.hid (D1.out.trans (b9.mono D1.out.size))
          have own := ownsKept OW1.out b9
          have HRR := Lib.hid hr
          have NR : Hid (rowN (fun j => if j = k then r else R j) (k + 1) = rowN R k ++ [.int .i64 r]) := Lib.hid (by
            rw [rowN_succ, if_pos rfl, rowN_congr (g := R) (fun j hj => if_neg (by omega))])
          have own' := ownsKept own (belowA (Below.refl w9.heap.size w9) (.cells #[.int .i64 r] 3))
          have D3 := Lib.hid (belowA D2.out (.cells #[.int .i64 r] 3))
          have OWN2 := Lib.hid own
          clear b9 hr RM D1 OW1 own
          go_wp2_with (first
            | (at_builtin; go_must (refine wpList_append_own_at _ rfl _ _ 35 rfl w7.heap.size 3 i0 (.int .i64 0) 1 8 Try.underlying35 hi hz0 hz1 hz2 rfl (by decide) _ k _ rfl own' ⟨w9.heap.size, 0, none⟩ 1 1 [.int .i64 r] rfl rfl (cell_one_new _ _ _) (fun x hx => by simp at hx; subst hx; rfl) (by unfold maxLen; omega) (by omega) (by have := D2.out.size; simp; omega) ?_); intro v1 w4 own1 hg1 hnil1 hat1; have ff := own_form own1; obtain ⟨av, cv, rfl⟩ := ff; have ZB := Lib.hid (D3.out.grown hg1 (by have := D2.out.size; simp; omega) (fun j e => own_base2 OWN2.out e)); rw [← NR.out] at own1; have OW1 := Lib.hid own1; clear own1 hg1 hnil1 hat1 own'))
          go_roundw
          case rel => exact ⟨k + 1, fun j => if j = k then r else R j, by omega, by go_num, fun j hj => by
            dsimp only
            by_cases e : j = k
            · rw [if_pos e, e]; exact HRR.out
            · rw [if_neg e]; exact HR.out j (by omega), OW1.out, ZB.out⟩
          case measure => simp [intOf]; omega
        · have hkn : k = n := by omega
          subst hkn
          obtain ⟨gR, cR, rfl, hgR, aR⟩ := own_arr h1 OWN.out
          have AR := Lib.hid aR
          have hRb : gR ≠ b := by have := C7.out.arr.lt; omega
          have HRB := Lib.hid hRb
          clear aR hgR hRb OWN
          go_wp2_with fail
          refine (LE.out _ (Below.refl _ _)).mono ?_
          rintro e w8 ⟨rfl, b8⟩
          have D1 := Lib.hid (D0.out.trans (b8.mono D0.out.size))
          have C8 := Lib.hid (C7.out.kept D1.out)
          have AR8 := Lib.hid (AR.out.kept b8)
          have A8 := Lib.hid (A7.out.kept D1.out)
          have B8 := Lib.hid (B7.out.trans (D1.out.mono B7.out.size))
          have NM := Lib.hid (norm_any C8.out h1 h16 SOK.out.2)
          clear b8 LE D0 D1 AR A7 C7 B7
          go_wp2_with fail
          refine NM.out.mono ?_
          rintro e w9 ⟨l, hl1, hl2, rfl, ck, u⟩
          have B9 := Lib.hid (u.out B8.out HGB.out.2)
          have A9 := Lib.hid (u.arr A8.out HAB.out)
          have AR9 := Lib.hid (u.arr AR8.out HRB.out)
          have C9 := Lib.hid ck
          have HLX : Hid (f1 x - l = 0) := Lib.hid (by
            obtain ⟨j, hj, e⟩ := hl1
            have := HX.out.le hj
            have := hl2 x hxn
            omega)
          have HL2 := Lib.hid hl2
          have hl0 : 0 ≤ l ∧ l ≤ 1152921504606846976 := by
            obtain ⟨j, hj, e⟩ := hl1
            have := SOK.out.2 j hj
            omega
          obtain ⟨l0, l1⟩ := hl0
          have TI := Lib.hid (times_any ck h1 h16)
          clear u ck hl1 hl2 NM C8 AR8 A8 B8
          go_wp2_with fail
          refine TI.out.mono ?_
          rintro e w10 ⟨gC, cC, rfl, hgC, aC, b10⟩
          have A10 := Lib.hid (A9.out.kept b10)
          have AR10 := Lib.hid (AR9.out.kept b10)
          have C10 := Lib.hid (C9.out.kept b10)
          have B10 := Lib.hid (B9.out.trans (b10.mono B9.out.size))
          have AC := Lib.hid aC
          have NX := Lib.hid (fun w' (h : Below w10.heap.size w10 w') => next_any ((C9.out.kept b10).kept h) h1 h16)
          clear b10 aC TI A9 AR9 C9 B9 hgC
          have zx1 : decide ((x : Int) < 0) = false := decide_eq_false (by omega)
          have hxk : ¬ k ≤ x := by omega
          have zx2 : decide ((k : Int) ≤ x) = false := decide_eq_false (by omega)
          have zx3 : decide (k ≤ x) = false := decide_eq_false hxk
          have zx4 : (x : Int) < k := by omega
          have zx5 : (0 : Int) ≤ x := by omega
          go_wp2_with fail
          refine (NX.out _ (Below.refl _ _)).mono ?_
          rintro e w11 ⟨y, hy, rfl, b11⟩
          obtain rfl := hy.uniq (least_shift l HX.out)
          have v0 : w11.cell? ⟨gC, y, none⟩ = some (.int .i64 0) := by
            have := (AC.out.kept b11).cell hxn
            rw [HLX.out] at this
            exact this
          have A11 := Lib.hid (A10.out.kept b11)
          have AR11 := Lib.hid (AR10.out.kept b11)
          have AC11 := Lib.hid (AC.out.kept b11)
          have C11 := Lib.hid (C10.out.kept b11)
          have B11 := Lib.hid (B10.out.trans (b11.mono B10.out.size))
          have HYX := Lib.hid hy
          clear b11 hy NX A10 AR10 C10 B10 AC
          go_wp2_with fail
          go_loopw [15, 16, 17] (fun i _ _ wr => ∃ j : Nat, j ≤ k ∧ i = .int .i64 j ∧ Below w11.heap.size w11 wr) (fun i _ _ _ => k - (intOf i).toNat)
          case atStart => exact ⟨0, by omega, rfl, Below.refl _ _⟩
          case round =>
            obtain ⟨j, hj, rfl, hb⟩ := hrel
            have D0 := Lib.hid hb
            clear hb v0
            by_cases hlj : j < k
            · have zj : (j : Int) < k := by omega
              have RM := Lib.hid (room_any (C11.out.kept D0.out) h16 j hlj OK.out.2.2 (fun i hi => by
                have a := SOK.out.2 i hi
                have b := HL2.out i hi
                try dsimp only
                omega))
              go_wp2_with fail
              refine RM.out.mono ?_
              rintro e w12 ⟨r, hr, rfl, b12⟩
              obtain rfl := (room_shift l hr).uniq (HR.out j hlj)
              have D1 := Lib.hid (D0.out.trans (b12.mono D0.out.size))
              have e1 := (A11.out.kept D1.out).cell hlj
              have e2 := (AC11.out.kept D1.out).cell hlj
              have e3 := (AR11.out.kept D1.out).cell hlj
              have lA := (A11.out.kept D1.out).lt
              have lC := (AC11.out.kept D1.out).lt
              have lR := (AR11.out.kept D1.out).lt
              have tj := SOK.out.2 j hlj
              have lj := HL2.out j hlj
              obtain ⟨a, ha⟩ : ∃ a, f1 j = a := ⟨_, rfl⟩
              obtain ⟨r', hr'⟩ : ∃ a, R j = a := ⟨_, rfl⟩
              try dsimp only at e2
              rw [ha] at e1 e2 tj lj
              rw [hr'] at e3
              rw [hr']
              obtain ⟨c, hc⟩ : ∃ c, a - l = c := ⟨_, rfl⟩
              rw [hc] at e2
              have hc0 : 0 ≤ c := by omega
              have hc1 : c ≤ 1152921504606846976 := by omega
              have eac : a - c = l := by omega
              have wac : IntKind.i64.wrap (a - c) = l := by rw [eac, IntKind.wrap_i64]; omega
              have zl : (l != l) = false := by simp
              have zc : decide (c < 0) = false := decide_eq_false (by omega)
              have zr : (r' != r') = false := by simp
              obtain ⟨a0, a1⟩ := tj
              clear ha hr' hr b12 RM hc
              go_wp2_with fail
              refine wp_region_more (by kernel_rfl) (by kernel_rfl) ?_
              repeat (go_big_quiet_step (fail))
              refine wpQuiet_nil ?_
              rintro _ ⟨nq, rfl⟩
              have D2 := Lib.hid (D1.out.trans ((below_more nq).mono D1.out.size))
              generalize moreOf w12 nq = w13 at D2 ⊢
              clear e1 e2 e3 lA lC lR D1 D0
              go_wp2_with fail
              go_roundw
              case rel => exact ⟨j + 1, by omega, by go_num, D2.out⟩
              case measure => simp [intOf]; omega
            · have hjk : j = k := by omega
              subst hjk
              have NM := Lib.hid (norm_any (C11.out.kept D0.out) h1 h16 (fun i hi => by
                have a := SOK.out.2 i hi
                have b := HL2.out i hi
                try dsimp only
                omega))
              go_wp2_with fail
              refine NM.out.mono ?_
              rintro e w12 ⟨l', hl1', hl2', rfl, ck, u⟩
              have hl0' : l' = 0 := by
                obtain ⟨i, hi, e⟩ := hl1'
                have a := HL2.out i hi
                have b := hl2' y hxn
                have c := HLX.out
                try dsimp only at e b
                omega
              subst hl0'
              have B12 := Lib.hid (u.out (B11.out.trans (D0.out.mono B11.out.size)) HGB.out.2)
              clear hl1' hl2' ck u NM
              go_wp2_with fail
              go_ret
              exact ⟨rfl, B12.out⟩
end Go.Proofs.Ytfigepnpegnhkaa
namespace Go.Proofs.Ytfigepnpegnhkaa.clockKeeps
open Go.ChangeShapes Go.WideShapes Go.ChangeAt Go.RowKit
theorem walk (H : Type) (enc : TypeId × Value → H) (W : World) (base : Nat) (v0 v1 : Value) {d0 d1 : DataW H} {p0 p1 : List MemPlace}
    (k0 : Value.okWide Try.prog W .any base 22 v0) (h0 : DataW.Trod enc Try.prog W 0 (fun _ => true) true 22 v0 d0 p0)
    (k1 : Value.okWide Try.prog W .any base 22 v1) (h1 : DataW.Trod enc Try.prog W 0 (fun _ => true) true 22 v1 d1 p1)
    (hsz : (DataW.weightsEach Try.prog [22, 22] [d0, d1]).all (· ≤ reachBytes) = true) :
    Calls Try.prog 6 #[v0, v1] W fun e w' => e = .returned (.bool true) ∧ Below W.heap.size W w' := by
  obtain ⟨n, f, S0, hn, _, _⟩ := openRow (B := 8) Try.underlying22 Try.underlying2 (by kernel_rfl) (by kernel_rfl) k0 h0 (fun elems spare e => sized_slice hsz (j := 0) (t := 22) (e := 2) rfl (by rw [← e]; rfl) Try.underlying22)
  obtain ⟨m, f1, S1, hm, _, _⟩ := openRow (B := 8) Try.underlying22 Try.underlying2 (by kernel_rfl) (by kernel_rfl) k1 h1 (fun elems spare e => sized_slice hsz (j := 1) (t := 22) (e := 2) rfl (by rw [← e]; rfl) Try.underlying22)
  exact clockKeeps_law v0 v1 n m f f1 W S0 S1 hn hm
end Go.Proofs.Ytfigepnpegnhkaa.clockKeeps
