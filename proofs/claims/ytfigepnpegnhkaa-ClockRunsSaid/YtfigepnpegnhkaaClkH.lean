/- breakPatterns. -/
import Derived.Test.YtfigepnpegnhkaaClkG
import Derived.Test.YtfigepnpegnhkaaShelf
namespace Go.Proofs.Ytfigepnpegnhkaa
open Go.RowKit Go.Sort Go.Shelf Go.Lib
set_option linter.unusedVariables false
set_option linter.unusedSimpArgs false
set_option maxRecDepth 100000
theorem xnext (w : World) (rb X : Nat) (hX : X < 18446744073709551616) (C : Cn w rb .u64 X) : Calls Try.prog 55 #[.pointer (some ⟨rb, 0, none⟩)] w fun e w' => ∃ Y : Nat, Y < 18446744073709551616 ∧ e = .returned (.int .u64 Y) ∧ w' = (w.setCell ⟨rb, 0, none⟩ (.int .u64 Y)).drewN 3 :=
  (AnyF.xorshift_Next (P := Try.prog) (ρ := Try.laysSlF06_f38_ren) { Try.laysSlF06_f38 with } rb 0 X hX w C.c C.f).mono fun e w' ⟨h1, h2⟩ => ⟨_, xorNextN_lt X hX, h1, h2⟩
theorem npow (w : World) (n : Nat) (hn : n ≤ 16) (h8 : 8 ≤ n) : Calls Try.prog 54 #[.int .i64 n] w fun e w' => ∃ M : Nat, 1 ≤ M ∧ M ≤ 2 * n ∧ e = .returned (.int .u64 M) ∧ w' = w :=
  (AnyF.nextPowerOfTwo (P := Try.prog) (ρ := Try.laysSlF06_f38_ren) { Try.laysSlF06_f38 with } n (by omega) w).mono fun e w' ⟨h1, h2⟩ => ⟨_, by rw [Nat.one_shiftLeft]; exact Nat.two_pow_pos _, by rw [Nat.one_shiftLeft]; exact two_pow_bitsLen_le (by omega), h1, h2⟩
section
variable {w w' : World} {g b cap n bl sb : Nat} {S T : Nat → Int} {d d' : Nat → Nat}
set_option maxHeartbeats 4000000 in
theorem break_any (A : At w g b cap n S T bl d) (hn : n ≤ 16) (lo hi c : Nat) (h1 : lo + 12 < hi) (h2 : hi ≤ n) :
    Calls Try.prog 45 #[.slice (some ⟨bl, 0, none⟩) n c, .int .i64 lo, .int .i64 hi, cmpV g] w (PmP w g b cap n S T bl d lo hi) := by
  have HA := Lib.hid A
  obtain ⟨L, hL⟩ : ∃ L : Nat, hi - lo = L := ⟨_, rfl⟩
  obtain ⟨q, hq⟩ : ∃ q : Nat, L / 4 = q := ⟨_, rfl⟩
  have hq3 : q = 3 ∨ q = 4 := by omega
  obtain ⟨x0, hx0⟩ : ∃ i, lo + q * 2 = i + 1 := ⟨lo + q * 2 - 1, by omega⟩
  have e0 : (hi : Int) - lo = L := by omega
  have e4 : (L : Int) / 4 = q := by omega
  have ej : (lo : Int) + q * 2 = (x0 : Int) + 1 := by omega
  have d3 : decide (8 ≤ (L : Int)) = true := decide_eq_true (by omega)
  have hl16 : L ≤ 16 := by omega
  have hl13 : 13 ≤ L := by omega
  have HX := Lib.hid (show lo ≤ x0 ∧ x0 + 2 < hi ∧ hi = lo + L by omega)
  have NP := Lib.hid (fun w => npow w L hl16 (by omega))
  clear A hL hq hx0
  go_enter Try.func45, Try.ntmps45
  go_wp2_with fail
  obtain ⟨w1, hw1⟩ : ∃ w1, w.alloc (.cells #[.int .u64 L] 86) = w1 := ⟨_, rfl⟩
  obtain ⟨rb, hrb⟩ : ∃ rb, w.heap.size = rb := ⟨_, rfl⟩
  have C1 : Hid (Cn w1 rb .u64 (L : Nat)) := Lib.hid (by rw [← hw1, ← hrb]; exact Cn.new w _ _ _)
  have A1 : Hid (At w1 g b cap n S T bl d) := Lib.hid (by rw [← hw1]; exact HA.out.kept (belowA (Below.refl _ _) _))
  have U1 : Hid (Upd w bl w1) := Lib.hid (by rw [← hw1]; exact (Upd.refl w bl).alloc _)
  have HR : Hid (w.heap.size ≤ rb ∧ rb ≠ g ∧ rb ≠ b ∧ rb ≠ bl) := Lib.hid (by
    have gl : g < w.heap.size := World.block_lt_of_cell? _ _ HA.out.ck.hd
    have bL : b < w.heap.size := HA.out.ck.arr.lt
    have ll : bl < w.heap.size := HA.out.ln.lt
    omega)
  rw [hw1, hrb]
  clear hw1 hrb HA
  refine (NP.out _).mono ?_
  rintro e w2 ⟨M, hM1, hM2, rfl, rfl⟩
  have hM3 : M ≤ 32 := by omega
  have eM : ((M : Int) - 1) = ((M - 1 : Nat) : Int) := by omega
  have HM := Lib.hid eM
  obtain ⟨m1, hm1⟩ : ∃ m1, M - 1 = m1 := ⟨_, rfl⟩
  rw [hm1] at eM HM
  have hm1b : m1 + 1 ≤ 2 * L := by omega
  clear NP hm1
  go_wp2_with fail
  go_loopw [11, 12] (fun x y wr => ∃ (k X : Nat) (d' : Nat → Nat), k ≤ 3 ∧ x = .int .i64 ((x0 + k : Nat) : Int) ∧ X < 18446744073709551616 ∧ Cn wr rb .u64 (X : Nat) ∧ Pm lo hi d d' ∧ At wr g b cap n S T bl d' ∧ Upd w bl wr) (fun x _ _ => 3 + x0 - (intOf x).toNat)
  case atStart => exact ⟨0, L, d, by omega, by go_num, by omega, C1.out, .refl, A1.out, U1.out⟩
  case round =>
    obtain ⟨k, X, d1, hk, rfl, hX, cn, pm, at1, u1⟩ := hrel
    have C2 := Lib.hid cn
    have PM := Lib.hid pm
    have A2 := Lib.hid at1
    have U2 := Lib.hid u1
    clear cn pm at1 u1 C1 A1 U1
    obtain ⟨i, hi'⟩ : ∃ i, x0 + k = i := ⟨_, rfl⟩
    rw [hi']
    have HI := Lib.hid hi'
    by_cases hlt : k < 3
    · have zz : (i : Int) ≤ (x0 : Int) + 1 + 1 := by omega
      have XN := Lib.hid (xnext wr rb X hX C2.out)
      clear hi'
      go_wp2_with fail
      refine XN.out.mono ?_
      rintro e w3 ⟨Y, hY, rfl, hw3⟩
      have C4 : Hid (Cn w3 rb .u64 (Y : Nat)) := Lib.hid (by rw [hw3]; exact (C2.out.set _).kept (below_drewN (Below.refl _ _) _))
      have UU : Upd wr rb w3 := by rw [hw3]; exact ((Upd.refl wr rb).set 0 _).drewN 3
      have A4 := Lib.hid (A2.out.side UU HR.out.2.1 HR.out.2.2.1 HR.out.2.2.2)
      have U4 : Hid (Upd w bl w3) := Lib.hid (by rw [hw3]; exact (U2.out.newer (p := ⟨rb, 0, none⟩) HR.out.1 _).drewN 3)
      obtain ⟨r, hr⟩ : ∃ r, Y &&& m1 = r := ⟨_, rfl⟩
      have hrm : r ≤ m1 := by rw [← hr]; exact Nat.and_le_right
      have ea : bits .and .u64 (Y : Int) (m1 : Int) = (r : Int) := by rw [u64_and_nat Y m1 hY (by omega), hr]
      obtain ⟨w4, hw4⟩ : ∃ w4, w3 = w4 := ⟨_, rfl⟩
      rw [hw4] at C4 A4 U4 ⊢
      have hrange := And.intro HX.out HI.out
      clear hr UU hw3 hw4 C2 A2 U2 XN
      by_cases hge : L ≤ r
      · obtain ⟨o, ho⟩ : ∃ o, r - L = o := ⟨_, rfl⟩
        have d5 : decide ((L : Int) ≤ r) = true := decide_eq_true (by omega)
        have eo : (r : Int) - L = o := by omega
        obtain ⟨j, hj⟩ : ∃ j, lo + o = j := ⟨_, rfl⟩
        have hjn : lo ≤ j ∧ j < hi ∧ lo ≤ i ∧ i < hi := by omega
        have hbl : bl < w4.heap.size := A4.out.ln.lt
        have a0 : (lo : Int) + o = j := by omega
        have a1 : (i : Int) < n := by omega
        have a2 : (j : Int) < n := by omega
        have a3 : (0 : Int) ≤ i := by omega
        have a4 : (0 : Int) ≤ j := by omega
        have y1 : w4.cell? ⟨bl, i, none⟩ = some (.int .i64 (d1 i)) := A4.out.ln.cell (by omega)
        have y0 : w4.cell? ⟨bl, j, none⟩ = some (.int .i64 (d1 j)) := A4.out.ln.cell (by omega)
        have g1 := A4.out.ln.frozen i
        have g0 := A4.out.ln.frozen j
        obtain ⟨u0, y0'⟩ : ∃ u, (w4.setCell ⟨bl, i, none⟩ (.int .i64 (d1 j))).cell? ⟨bl, j, none⟩ = some u := second_cell y1 y0 _
        have SW : Hid (At ((w4.setCell ⟨bl, i, none⟩ (.int .i64 (d1 j))).setCell ⟨bl, j, none⟩ (.int .i64 (d1 i))).drew g b cap n S T bl (swp d1 i j)) := Lib.hid (A4.out.upd (((Upd.refl w4 bl).set _ _).set _ _).drew (A4.out.ln.swap (by omega) (by omega)) (A4.out.row.sw (by omega) (by omega)))
        have UW : Hid (Upd w bl ((w4.setCell ⟨bl, i, none⟩ (.int .i64 (d1 j))).setCell ⟨bl, j, none⟩ (.int .i64 (d1 i))).drew) := Lib.hid ((U4.out.set _ _).set _ _).drew
        have CW : Hid (Cn ((w4.setCell ⟨bl, i, none⟩ (.int .i64 (d1 j))).setCell ⟨bl, j, none⟩ (.int .i64 (d1 i))).drew rb .u64 (Y : Nat)) := Lib.hid (C4.out.upd (((Upd.refl w4 bl).set _ _).set _ _).drew HR.out.2.2.2)
        have NPM := Lib.hid (PM.out.sw (i := i) (j := j) (by omega) (by omega) (by omega) (by omega))
        have mixed := mixed
        clear hrange
        go_wp2_with fail
        go_big_region_o
        generalize ((w4.setCell ⟨bl, i, none⟩ (.int .i64 (d1 j))).setCell ⟨bl, j, none⟩ (.int .i64 (d1 i))).drew = w5 at SW UW CW ⊢
        clear y1 y0 g1 g0 y0' hbl mixed
        go_wp2_with fail
        go_roundw
        case rel => exact ⟨k + 1, Y, swp d1 i j, by omega, by have := HI.out; go_num, hY, CW.out, NPM.out, SW.out, UW.out⟩
        case measure => have := HI.out; simp [intOf] <;> omega
      · have d5 : decide ((L : Int) ≤ r) = false := decide_eq_false (by omega)
        obtain ⟨j, hj⟩ : ∃ j, lo + r = j := ⟨_, rfl⟩
        have hjn : lo ≤ j ∧ j < hi ∧ lo ≤ i ∧ i < hi := by omega
        have hbl : bl < w4.heap.size := A4.out.ln.lt
        have a0 : (lo : Int) + r = j := by omega
        have a1 : (i : Int) < n := by omega
        have a2 : (j : Int) < n := by omega
        have a3 : (0 : Int) ≤ i := by omega
        have a4 : (0 : Int) ≤ j := by omega
        have y1 : w4.cell? ⟨bl, i, none⟩ = some (.int .i64 (d1 i)) := A4.out.ln.cell (by omega)
        have y0 : w4.cell? ⟨bl, j, none⟩ = some (.int .i64 (d1 j)) := A4.out.ln.cell (by omega)
        have g1 := A4.out.ln.frozen i
        have g0 := A4.out.ln.frozen j
        obtain ⟨u0, y0'⟩ : ∃ u, (w4.setCell ⟨bl, i, none⟩ (.int .i64 (d1 j))).cell? ⟨bl, j, none⟩ = some u := second_cell y1 y0 _
        have SW : Hid (At ((w4.setCell ⟨bl, i, none⟩ (.int .i64 (d1 j))).setCell ⟨bl, j, none⟩ (.int .i64 (d1 i))).drew g b cap n S T bl (swp d1 i j)) := Lib.hid (A4.out.upd (((Upd.refl w4 bl).set _ _).set _ _).drew (A4.out.ln.swap (by omega) (by omega)) (A4.out.row.sw (by omega) (by omega)))
        have UW : Hid (Upd w bl ((w4.setCell ⟨bl, i, none⟩ (.int .i64 (d1 j))).setCell ⟨bl, j, none⟩ (.int .i64 (d1 i))).drew) := Lib.hid ((U4.out.set _ _).set _ _).drew
        have CW : Hid (Cn ((w4.setCell ⟨bl, i, none⟩ (.int .i64 (d1 j))).setCell ⟨bl, j, none⟩ (.int .i64 (d1 i))).drew rb .u64 (Y : Nat)) := Lib.hid (C4.out.upd (((Upd.refl w4 bl).set _ _).set _ _).drew HR.out.2.2.2)
        have NPM := Lib.hid (PM.out.sw (i := i) (j := j) (by omega) (by omega) (by omega) (by omega))
        have mixed := mixed
        clear hrange
        go_wp2_with fail
        go_big_region_o
        generalize ((w4.setCell ⟨bl, i, none⟩ (.int .i64 (d1 j))).setCell ⟨bl, j, none⟩ (.int .i64 (d1 i))).drew = w5 at SW UW CW ⊢
        clear y1 y0 g1 g0 y0' hbl mixed
        go_wp2_with fail
        go_roundw
        case rel => exact ⟨k + 1, Y, swp d1 i j, by omega, by have := HI.out; go_num, hY, CW.out, NPM.out, SW.out, UW.out⟩
        case measure => have := HI.out; simp [intOf] <;> omega
    · have hk3 : k = 3 := by omega
      subst hk3
      have zz : ¬ (i : Int) ≤ (x0 : Int) + 1 + 1 := by omega
      have zd : decide ((i : Int) ≤ (x0 : Int) + 1 + 1) = false := decide_eq_false zz
      clear hi'
      go_wp2_with fail
      go_end0
      exact ⟨rfl, d1, PM.out, A2.out, U2.out⟩
end
end Go.Proofs.Ytfigepnpegnhkaa
