/- The walk of ClockRooms. -/
import Derived.Test.YtfigepnpegnhkaaClkQ
namespace Go.Proofs.Ytfigepnpegnhkaa
open Go.RowKit
set_option linter.unusedVariables false
set_option linter.unusedSimpArgs false
set_option maxRecDepth 100000
set_option maxHeartbeats 8000000 in
theorem clockRooms_law (v0 v1 : Value) (n m : Nat) (f f1 : Nat → Int) (less : Int) (W : World) (S0 : Sees W .i64 v0 n f) (S1 : Sees W .i64 v1 m f1) (hn : n * 8 ≤ 140737488351232) (hm : m * 8 ≤ 140737488351232) :
    Calls Try.prog 3 #[v0, v1, .int .i64 less] W (Says W (.bool true)) := by
  have SS0 := Lib.hid S0
  have SS1 := Lib.hid S1
  obtain ⟨ao0, c0, rfl, hs0⟩ := S0
  obtain ⟨ao1, c1, rfl, hs1⟩ := S1
  have hn44 : n ≤ 17592186044416 := by omega
  have hm44 : m ≤ 17592186044416 := by omega
  clear hn hm hs0 hs1
  go_enter Try.func3, Try.ntmps3
  try simp only [List.append_eq, List.cons_append, List.nil_append]
  go_wp2_with fail
  refine (two_any W).mono ?_
  rintro e w1 ⟨rfl, b1⟩
  have B1 := Lib.hid b1
  have CP := Lib.hid (copyLongs_any _ n f w1 (SS0.out.kept b1) hn44)
  clear b1
  go_wp2_with fail
  refine CP.out.mono ?_
  rintro e w2 ⟨g0, rfl, hg0, a0, b2⟩
  have B2 := Lib.hid (B1.out.trans (b2.mono B1.out.size))
  have NE := Lib.hid (new_any (.slice (some ⟨g0, 0, none⟩) n n) n f w2 a0.sees)
  clear a0 b2 hg0 CP B1
  go_wp2_with fail
  refine NE.out.mono ?_
  rintro e w3 (⟨c, hc, _, rfl, b3⟩ | ⟨ok, g, b, cap, rfl, hg, hb, ck, b3⟩)
  · have B3 := Lib.hid (B2.out.trans (b3.mono B2.out.size))
    have zc : (c == 0) = false := by rw [beq_eq_false_iff_ne]; exact hc
    have zc2 : (c != 0) = true := by simp [hc]
    clear b3 hc NE
    go_wp2_with fail
    go_ret
    exact ⟨rfl, B3.out⟩
  · have B3 := Lib.hid (B2.out.trans (b3.mono B2.out.size))
    have CK := Lib.hid ck
    have HGB := Lib.hid (show W.heap.size ≤ g ∧ W.heap.size ≤ b from ⟨Nat.le_trans B2.out.size hg, Nat.le_trans B2.out.size hb⟩)
    have OK := Lib.hid ok
    have h1 : 1 ≤ n := ok.1
    have h16 : n ≤ 16 := ok.2.1
    have CP := Lib.hid (copyLongs_any _ m f1 w3 (SS1.out.kept B3.out) hm44)
    clear b3 ck hg hb ok NE B2 hn44
    go_wp2_with fail
    refine CP.out.mono ?_
    rintro e w4 ⟨g1, rfl, hg1, a1, b4⟩
    have B4 := Lib.hid (B3.out.trans (b4.mono B3.out.size))
    have C4 := Lib.hid (CK.out.kept b4)
    have hgb : g1 ≠ b := by have := CK.out.arr.lt; omega
    have SE := Lib.hid (set_any C4.out h1 h16 (.slice (some ⟨g1, 0, none⟩) m m) m f1 a1.sees hm44 (fun ao c e => by
      have e2 : (some (⟨g1, 0, none⟩ : Addr)) = some ao := by injection e
      injection e2 with e3
      rw [← e3]; exact hgb))
    clear b4 a1 CP B3 CK hg1 hgb
    go_wp2_with fail
    refine SE.out.mono ?_
    rintro e w5 (⟨c, hc, rfl, b5⟩ | ⟨sok, rfl, ck, u5⟩)
    · have B5 := Lib.hid (B4.out.trans (b5.mono B4.out.size))
      have hc0 : c ≠ 0 := by rcases hc with h | h <;> omega
      have zc : (c == 0) = false := by rw [beq_eq_false_iff_ne]; exact hc0
      have zc2 : (c != 0) = true := by simp [hc0]
      clear b5 hc hc0 SE
      go_wp2_with fail
      go_ret
      exact ⟨rfl, B5.out⟩
    · have B5 := Lib.hid (u5.out B4.out HGB.out.2)
      have C5 := Lib.hid ck
      have SOK := Lib.hid sok
      have NX := Lib.hid (next_any ck h1 h16)
      clear u5 ck sok SE C4 B4
      go_wp2_with fail
      refine NX.out.mono ?_
      rintro e w6 ⟨x, hx, rfl, b6⟩
      have HX := Lib.hid hx
      have hxn : x < n := hx.1
      have C6 := Lib.hid (C5.out.kept b6)
      have B6 := Lib.hid (B5.out.trans (b6.mono B5.out.size))
      have RM := Lib.hid (room_any C6.out h16 x hxn OK.out.2.2 SOK.out.2)
      clear b6 hx NX C5 B5
      go_wp2_with fail
      refine RM.out.mono ?_
      rintro e w7 ⟨r, hr, rfl, b7⟩
      have HR := Lib.hid hr
      have r1 := room_pos HX.out hr
      have r2 := hr.2.1
      have C7 := Lib.hid (C6.out.kept b7)
      have B7 := Lib.hid (B6.out.trans (b7.mono B6.out.size))
      have zr1 : decide (r < 1) = false := decide_eq_false (by omega)
      have zr2 : decide (1073741824 < r) = false := decide_eq_false (by omega)
      clear b7 hr RM C6 B6
      go_upto_region 10 with fail
      go_cut [53] from 47 to 53 (fun v wx => v = .bool (decide (less < 1 ∨ r < less)) ∧ wx = w7)
      case first =>
        by_cases c1 : less < 1
        · have q : decide (less < 1) = true := decide_eq_true c1
          go_wp2_with fail
          go_meet
          exact ⟨congrArg Value.bool (decide_eq_true (p := less < 1 ∨ r < less) (by omega)).symm, rfl⟩
        · have q : decide (less < 1) = false := decide_eq_false c1
          by_cases c2 : r < less
          · have q2 : decide (r < less) = true := decide_eq_true c2
            go_wp2_with fail
            go_meet
            exact ⟨congrArg Value.bool (decide_eq_true (p := less < 1 ∨ r < less) (by omega)).symm, rfl⟩
          · have q2 : decide (r < less) = false := decide_eq_false c2
            go_wp2_with fail
            go_meet
            exact ⟨congrArg Value.bool (decide_eq_false (p := less < 1 ∨ r < less) (by omega)).symm, rfl⟩
      case rest =>
        obtain ⟨rfl, rfl⟩ := hcut
        go_upto_if 53 with fail
        go_cut [2] from 53 to 53 (fun v wx => ∃ l : Int, v = .int .i64 l ∧ 1 ≤ l ∧ l ≤ r ∧ wx = wc)
        case first =>
          by_cases c1 : less < 1 ∨ r < less
          · have q : decide (less < 1 ∨ r < less) = true := decide_eq_true c1
            go_wp2_with fail
            go_meet
            exact ⟨1, rfl, by omega, by omega, rfl⟩
          · have q : decide (less < 1 ∨ r < less) = false := decide_eq_false c1
            go_wp2_with fail
            go_meet
            exact ⟨less, rfl, by omega, by omega, rfl⟩
        case rest =>
          obtain ⟨l, rfl, l1, l2, rfl⟩ := hcut
          have AD := Lib.hid (add_all C7.out x hxn h16 (r - l) (by omega) (by omega) OK.out.2.2 SOK.out.2)
          clear zr1 zr2
          go_wp2_with fail
          refine AD.out.mono ?_
          rintro e w8 (⟨_, rfl, b8⟩ | ⟨tm, rfl, ck, u8⟩)
          · have B8 := Lib.hid (B7.out.trans (b8.mono B7.out.size))
            clear b8 AD
            go_wp2_with fail
            go_ret
            exact ⟨rfl, B8.out⟩
          · have B8 := Lib.hid (u8.out B7.out HGB.out.2)
            have C8 := Lib.hid ck
            have LM := Lib.hid (least_moved (S := f) HX.out (HR.out.2.2.1 (r - l) (by omega) (by omega)))
            have TM := Lib.hid tm
            have NX := Lib.hid (next_any ck h1 h16)
            clear u8 ck tm AD C7 B7
            go_wp2_with fail
            refine NX.out.mono ?_
            rintro e w9 ⟨y, hy, rfl, b9⟩
            obtain rfl := hy.uniq LM.out
            have B9 := Lib.hid (B8.out.trans (b9.mono B8.out.size))
            have C9 := Lib.hid (C8.out.kept b9)
            clear b9 hy NX C8 B8 LM
            by_cases hmax : r = 1073741824
            · have zq : (r == 1073741824) = true := by rw [beq_iff_eq]; exact hmax
              have HM := Lib.hid hmax
              clear hmax
              go_wp2_with fail
              go_ret
              exact ⟨rfl, B9.out⟩
            · have zq : (r == 1073741824) = false := by rw [beq_eq_false_iff_ne]; exact hmax
              have sxl := OK.out.2.2 y hxn
              have tx := SOK.out.2 y hxn
              have hp : 0 ≤ f y * (r - l) := Int.mul_nonneg (by omega) (by omega)
              have AD := Lib.hid (add_all C9.out y hxn h16 l (by omega) (by omega) OK.out.2.2 (fun j hj => by
                show 0 ≤ (if j = y then f1 y + f y * (r - l) else f1 j) ∧ (if j = y then f1 y + f y * (r - l) else f1 j) ≤ 1152921504606846976
                split
                · have := TM.out; omega
                · exact SOK.out.2 j hj))
              have LO := Lib.hid (HR.out.2.2.2 (by omega))
              clear hmax sxl tx hp
              go_wp2_with fail
              refine AD.out.mono ?_
              rintro e w10 (⟨_, rfl, b10⟩ | ⟨tm2, rfl, ck, u10⟩)
              · have B10 := Lib.hid (B9.out.trans (b10.mono B9.out.size))
                clear b10 AD
                go_wp2_with fail
                go_ret
                exact ⟨rfl, B10.out⟩
              · have B10 := Lib.hid (u10.out B9.out HGB.out.2)
                have ck2 := ck.same (T' := fun j => if j = y then f1 y + f y * r else f1 j) (fun j hj => by
                  dsimp only
                  by_cases e : j = y
                  · rw [if_pos e, if_pos e, if_pos rfl]
                    have : f y * (r - l) + f y * l = f y * r := by rw [← Int.mul_add]; congr 1; omega
                    omega
                  · rw [if_neg e, if_neg e, if_neg e])
                have NX := Lib.hid (next_any ck2 h1 h16)
                clear u10 ck ck2 tm2 AD C9 B9
                go_wp2_with fail
                refine NX.out.mono ?_
                rintro e w11 ⟨z, hz, rfl, b11⟩
                have B11 := Lib.hid (B10.out.trans (b11.mono B10.out.size))
                have zne := lost_moved LO.out hz
                have zq2 : ((z : Int) != y) = true := by simp; omega
                have zq3 : ((z : Int) == y) = false := by rw [beq_eq_false_iff_ne]; omega
                have zq4 : (z == y) = false := by rw [beq_eq_false_iff_ne]; exact zne
                clear b11 hz NX B10 zne
                go_wp2_with fail
                go_ret
                exact ⟨rfl, B11.out⟩
end Go.Proofs.Ytfigepnpegnhkaa
namespace Go.Proofs.Ytfigepnpegnhkaa.clockRooms
open Go.ChangeShapes Go.WideShapes Go.ChangeAt Go.RowKit
theorem walk (H : Type) (enc : TypeId × Value → H) (W : World) (base : Nat) (v0 v1 v2 : Value) {d0 d1 d2 : DataW H} {p0 p1 p2 : List MemPlace}
    (k0 : Value.okWide Try.prog W .any base 22 v0) (h0 : DataW.Trod enc Try.prog W 0 (fun _ => true) true 22 v0 d0 p0)
    (k1 : Value.okWide Try.prog W .any base 22 v1) (h1 : DataW.Trod enc Try.prog W 0 (fun _ => true) true 22 v1 d1 p1)
    (k2 : Value.okWide Try.prog W .any base 3 v2) (h2 : DataW.Trod enc Try.prog W 0 (fun _ => true) true 3 v2 d2 p2)
    (hsz : (DataW.weightsEach Try.prog [22, 22, 3] [d0, d1, d2]).all (· ≤ reachBytes) = true) :
    Calls Try.prog 3 #[v0, v1, v2] W fun e w' => e = .returned (.bool true) ∧ Below W.heap.size W w' := by
  obtain ⟨n, f, S0, hn, _, _⟩ := openRow (B := 8) Try.underlying22 Try.underlying2 (by kernel_rfl) (by kernel_rfl) k0 h0 (fun elems spare e => sized_slice hsz (j := 0) (t := 22) (e := 2) rfl (by rw [← e]; rfl) Try.underlying22)
  obtain ⟨m, f1, S1, hm, _, _⟩ := openRow (B := 8) Try.underlying22 Try.underlying2 (by kernel_rfl) (by kernel_rfl) k1 h1 (fun elems spare e => sized_slice hsz (j := 1) (t := 22) (e := 2) rfl (by rw [← e]; rfl) Try.underlying22)
  obtain ⟨le, rfl, rfl, rfl, w1⟩ := open_int Try.underlying3 k2 h2
  exact clockRooms_law v0 v1 n m f f1 le W S0 S1 hn hm
end Go.Proofs.Ytfigepnpegnhkaa.clockRooms
