/- PortsSteps: the walk. -/
import Derived.Test.YtniagcbajjmopaaPortsU
import Derived.Test.YtniagcbajjmopaaPortsG
import Derived.WalkKit
import Derived.ProofKit
import Derived.OpenShut
namespace Go.Proofs.Ytniagcbajjmopaa.portsSteps
open Go.RowKit
set_option linter.unusedVariables false
set_option linter.unusedSimpArgs false
set_option maxRecDepth 100000
theorem write_is {w : World} {g : Nat} {s : Pt} (A : Po w g s) (F : Fit2 s) (p v : Int) (v0 : 0 ≤ v) (v1 : v ≤ 255) {b : Bool} {s' : Pt} (h : wrP p v s = (b, s')) :
    Calls Try.prog 9 #[poP g, .int .u16 p, .int .u8 v] w (fun e w' => e = .returned (.bool b) ∧ Po w' g s' ∧ Fit2 s' ∧ Upd w g w') := by
  refine (write_gen A F p v v0 v1).mono ?_
  rintro e w' ⟨rfl, a, u⟩
  have f := wrP_fit F p v v0 v1
  rw [h] at a f
  exact ⟨by rw [h], a, f, u⟩
/-- The unit as the statement lays it. -/
def st (o : Bool) (c d l y : Int) : Pt := { Pt.zero with over := o, control := c, dot := d, line := l, say0 := y }
theorem wr1 (c : Int) : wrP 16896 c Pt.zero = (true, st false c 0 0 0) := by simp [wrP, ctlF, st, Pt.zero]
theorem wr2 (c v : Int) : wrP 16903 v (st false c 0 0 0) = (true, st false c v 0 0) := by simp [wrP, st, Pt.zero]
theorem wr4 (c d v : Int) : wrP 16905 v (st false c d 0 0) = (true, st false c d v 0) := by simp [wrP, st, Pt.zero]
theorem fit_zero : Fit2 Pt.zero := by
  constructor
  · constructor <;> simp [Pt.zero]
  all_goals simp [Pt.zero]
theorem fit_st (o : Bool) {c d l : Int} (c0 : 0 ≤ c) (c1 : c ≤ 255) (d0 : 0 ≤ d) (d1 : d ≤ 255) (l0 : 0 ≤ l) (l1 : l ≤ 255) : Fit2 (st o c d l 4660) := by
  constructor
  · constructor <;> simp [st, Pt.zero] <;> omega
  all_goals (simp [st, Pt.zero] <;> omega)
theorem soon_st (o : Bool) (c d l y : Int) : SoonOk (st o c d l y) := by
  intro t h1 h2
  exact absurd (Int.lt_trans (show 0 < t from h1) (show t < 0 from h2)) (by omega)
set_option maxHeartbeats 8000000 in
theorem main (c d l : Int) (o : Bool) (a b : Int) (w : World) (c0 : 0 ≤ c) (c1 : c ≤ 255) (d0 : 0 ≤ d) (d1 : d ≤ 255) (l0 : 0 ≤ l) (l1 : l ≤ 255) (a0 : 0 ≤ a) (a1 : a ≤ 1500000) (b0 : 0 ≤ b) (b1 : b ≤ 1500000) :
    Calls Try.prog 6 #[.int .u8 c, .int .u8 d, .int .u8 l, .bool o, .int .i64 a, .int .i64 b] w (Says w (.bool true)) := by
  have AW := Lib.hid awake_any
  go_enter Try.func6, Try.ntmps6
  try simp only [List.append_eq, List.cons_append, List.nil_append]
  go_wp2_with fail
  refine (new_any w).mono ?_
  rintro e w1 ⟨p, rfl, hp, a', hb1⟩
  have A1 := Lib.hid a'
  have B1 := Lib.hid hb1
  clear a' hb1
  go_wp2_with fail
  refine (new_any w1).mono ?_
  rintro e w2 ⟨q, rfl, hq, a', hb2⟩
  have P2 := Lib.hid (A1.out.kept hb2)
  have Q2 := Lib.hid a'
  have B2 := Lib.hid (B1.out.trans (hb2.mono B1.out.size))
  have hpq : p ≠ q := by have := A1.out.lt; omega
  have hqw : w.heap.size ≤ q := Nat.le_trans B1.out.size hq
  clear a' hb2 A1 B1
  go_wp2_with fail
  go_loopw [15] (fun i wr => ∃ k : Nat, k ≤ 2 ∧ i = .int .i64 k ∧ Po wr p (if 0 < k then st o c d l 4660 else Pt.zero) ∧ Po wr q (if 1 < k then st o c d l 4660 else Pt.zero) ∧ Below w.heap.size w wr) (fun i _ => 2 - (intOf i).toNat)
  case atStart => exact ⟨0, by omega, rfl, P2.out, Q2.out, B2.out⟩
  case round =>
    obtain ⟨k, hk, rfl, ap, aq, bw⟩ := hrel
    have BW := Lib.hid bw
    clear bw P2 Q2 B2
    rcases (show k = 0 ∨ k = 1 ∨ k = 2 by omega) with rfl | rfl | rfl
    · have AP : Hid (Po wr p Pt.zero) := Lib.hid ap
      have AQ : Hid (Po wr q Pt.zero) := Lib.hid aq
      clear ap aq
      go_wp2_with fail
      refine (write_is AP.out fit_zero 16896 c c0 c1 (wr1 c)).mono ?_
      rintro e w3 ⟨rfl, x3, f3, u3⟩
      have U3 := Lib.hid u3
      have X3 := Lib.hid x3
      have F3 := Lib.hid f3
      clear u3 x3 f3
      go_wp2_with fail
      refine (write_is X3.out F3.out 16903 d d0 d1 (wr2 c d)).mono ?_
      rintro e w4 ⟨rfl, x4, f4, u4⟩
      have U4 := Lib.hid (U3.out.trans u4)
      have X4 := Lib.hid x4
      have F4 := Lib.hid f4
      clear u4 x4 f4 U3 X3 F3
      go_wp2_with fail
      refine (write_is X4.out F4.out 16905 l l0 l1 (wr4 c d l)).mono ?_
      rintro e w5 ⟨rfl, x5, f5, u5⟩
      have U5 := Lib.hid (U4.out.trans u5)
      have X5 := Lib.hid x5
      clear u5 x5 f5 U4 X4 F4
      go_wp2_with fail
      refine (over_any X5.out o).mono ?_
      rintro e w6 ⟨rfl, x6, u6⟩
      have U6 := Lib.hid (U5.out.trans u6)
      have X6 := Lib.hid x6
      clear u6 x6 U5 X5
      go_wp2_with fail
      refine (pad_0 X6.out 4660).mono ?_
      rintro e w7 ⟨rfl, x7, u7⟩
      have U7 := Lib.hid (U6.out.trans u7)
      have X7 : Hid (Po w7 p (st o c d l 4660)) := Lib.hid x7
      clear u7 x7 U6 X6
      go_wp2_with fail
      go_roundw
      case rel => exact ⟨1, by omega, by go_num, X7.out, U7.out.blk AQ.out (fun e => hpq e.symm), U7.out.out BW.out hp⟩
      case measure => simp [intOf]
    · have AP : Hid (Po wr p (st o c d l 4660)) := Lib.hid ap
      have AQ : Hid (Po wr q Pt.zero) := Lib.hid aq
      clear ap aq
      go_wp2_with fail
      refine (write_is AQ.out fit_zero 16896 c c0 c1 (wr1 c)).mono ?_
      rintro e w3 ⟨rfl, x3, f3, u3⟩
      have U3 := Lib.hid u3
      have X3 := Lib.hid x3
      have F3 := Lib.hid f3
      clear u3 x3 f3
      go_wp2_with fail
      refine (write_is X3.out F3.out 16903 d d0 d1 (wr2 c d)).mono ?_
      rintro e w4 ⟨rfl, x4, f4, u4⟩
      have U4 := Lib.hid (U3.out.trans u4)
      have X4 := Lib.hid x4
      have F4 := Lib.hid f4
      clear u4 x4 f4 U3 X3 F3
      go_wp2_with fail
      refine (write_is X4.out F4.out 16905 l l0 l1 (wr4 c d l)).mono ?_
      rintro e w5 ⟨rfl, x5, f5, u5⟩
      have U5 := Lib.hid (U4.out.trans u5)
      have X5 := Lib.hid x5
      clear u5 x5 f5 U4 X4 F4
      go_wp2_with fail
      refine (over_any X5.out o).mono ?_
      rintro e w6 ⟨rfl, x6, u6⟩
      have U6 := Lib.hid (U5.out.trans u6)
      have X6 := Lib.hid x6
      clear u6 x6 U5 X5
      go_wp2_with fail
      refine (pad_0 X6.out 4660).mono ?_
      rintro e w7 ⟨rfl, x7, u7⟩
      have U7 := Lib.hid (U6.out.trans u7)
      have X7 : Hid (Po w7 q (st o c d l 4660)) := Lib.hid x7
      clear u7 x7 U6 X6
      go_wp2_with fail
      go_roundw
      case rel => exact ⟨2, by omega, by go_num, U7.out.blk AP.out hpq, X7.out, U7.out.out BW.out hqw⟩
      case measure => simp [intOf]
    · have AP : Hid (Po wr p (st o c d l 4660)) := Lib.hid ap
      have AQ : Hid (Po wr q (st o c d l 4660)) := Lib.hid aq
      have FtS := Lib.hid (fit_st o c0 c1 d0 d1 l0 l1)
      have SS := Lib.hid (soon_st o c d l 4660)
      clear ap aq
      have wab : IntKind.i64.wrap (a + b) = a + b := by rw [IntKind.wrap_i64]; omega
      have wab1 : IntKind.i64.wrap (a + b - 1) = a + b - 1 := by rw [IntKind.wrap_i64]; omega
      have E1 := Lib.hid (advance_any AP.out FtS.out.base SS.out a (by exact a0) (by omega))
      go_wp2_with fail
      refine E1.out.mono ?_
      rintro e w3 ⟨rfl, s1, x3, g1, n1, u3⟩
      have E2 := Lib.hid (advance_any x3 g1.fit g1.ok (a + b) (by rw [n1]; omega) (by omega))
      have G1 := Lib.hid g1
      have N1 := Lib.hid n1
      have U3 := Lib.hid u3
      clear x3 g1 n1 u3 E1
      go_wp2_with fail
      refine E2.out.mono ?_
      rintro e w4 ⟨rfl, s2, x4, g2, n2, u4⟩
      have hr1 := G1.out.rng FtS.out.rng
      have R2 := Lib.hid (g2.rng hr1)
      have L2 := Lib.hid g2.like_
      have X4 := Lib.hid x4
      have N2 := Lib.hid n2
      have U4 := Lib.hid (U3.out.trans u4)
      have Q4 := Lib.hid (U4.out.blk AQ.out (fun e => hpq e.symm))
      have E3 := Lib.hid (advance_any Q4.out FtS.out.base SS.out (a + b) (by show (0 : Int) ≤ a + b; omega) (by omega))
      clear x4 g2 n2 u4 E2 hr1 U3
      go_wp2_with fail
      refine E3.out.mono ?_
      rintro e w5 ⟨rfl, s3, x5, g3, n3, u5⟩
      have X5 := Lib.hid x5
      have P5 := Lib.hid (u5.blk X4.out hpq)
      have R3 := Lib.hid (g3.rng FtS.out.rng)
      have B5 := Lib.hid (u5.out (U4.out.out BW.out hp) hqw)
      have EQ : Hid (portB s2 = portB s3) := Lib.hid (by
        apply portB_like
        have l1 := G1.out.like_
        have l2 := L2.out
        have l3 := g3.like_
        rw [N1.out] at l1
        rw [N2.out, N1.out] at l2
        rw [n3] at l3
        have h0 : (st o c d l 4660).now = 0 := rfl
        rw [h0] at l1 l3
        have e1 : (a + b - 0).toNat = (a - 0).toNat + (a + b - a).toNat := by omega
        rw [e1, ticks_add] at l3
        exact l2.trans ((l1.ticks _).trans l3.symm))
      clear x5 g3 n3 u5 E3 G1 L2 X4 U4 Q4 AP AQ
      have SV1 := Lib.hid (savedPo_any P5.out R2.out)
      go_wp2_with fail
      refine SV1.out.mono ?_
      rintro e w6 ⟨v1, rfl, hf1, b6⟩
      have HF1 := Lib.hid hf1
      have B6 := Lib.hid (B5.out.trans (b6.mono B5.out.size))
      have P6 := Lib.hid (P5.out.kept b6)
      have SV2 := Lib.hid (savedPo_any (X5.out.kept b6) R3.out)
      clear hf1 b6 SV1 P5 X5
      go_wp2_with fail
      refine SV2.out.mono ?_
      rintro e w7 ⟨v2, rfl, hf2, b7⟩
      have BY := Lib.hid (bytesF_any (HF1.out.kept b7) hf2 (by rw [file_len, portB_len]; omega) (by rw [file_len, portB_len]; omega))
      rw [EQ.out, decide_eq_true rfl] at BY
      have B7 := Lib.hid (B6.out.trans (b7.mono B6.out.size))
      have P7 := Lib.hid (P6.out.kept b7)
      clear hf2 b7 SV2 HF1 P6
      go_wp2_with fail
      refine BY.out.mono ?_
      rintro e w8 ⟨rfl, b8⟩
      have B8 := Lib.hid (B7.out.trans (b8.mono B7.out.size))
      have AN := Lib.hid (advance_no (P7.out.kept b8) (a + b - 1) (Or.inl (by rw [N2.out]; omega)))
      clear b8 BY P7
      go_wp2_with fail
      refine AN.out.mono ?_
      rintro e w9 ⟨rfl, b9⟩
      have B9 := Lib.hid (B8.out.trans (b9.mono B8.out.size))
      clear b9 AN
      go_wp2_with fail
      refine (AW.out _).mono ?_
      rintro e wz ⟨rfl, hbz⟩
      have BZ := Lib.hid (B9.out.trans (hbz.mono B9.out.size))
      clear hbz
      go_wp2_with fail
      go_ret
      exact ⟨rfl, BZ.out⟩
set_option maxHeartbeats 2000000 in
theorem fewer (c d l : Int) (o : Bool) (a b : Int) (w : World) (h : a < 0 ∨ (0 ≤ a ∧ b < 0) ∨ (0 ≤ a ∧ 0 ≤ b ∧ 1500000 < a) ∨ (0 ≤ a ∧ 0 ≤ b ∧ a ≤ 1500000 ∧ 1500000 < b)) :
    Calls Try.prog 6 #[.int .u8 c, .int .u8 d, .int .u8 l, .bool o, .int .i64 a, .int .i64 b] w (Says w (.bool true)) := by
  have AW := Lib.hid awake_any
  rcases h with h | ⟨h, h2⟩ | ⟨h, h2, h3⟩ | ⟨h, h2, h3, h4⟩
  all_goals
    go_enter Try.func6, Try.ntmps6
    try simp only [List.append_eq, List.cons_append, List.nil_append]
    go_wp2_with fail
    refine (AW.out _).mono ?_
    rintro e wz ⟨rfl, hbz⟩
    go_wp2_with fail
    go_ret
    exact ⟨rfl, hbz⟩
theorem law (c d l : Int) (o : Bool) (a b : Int) (w : World) (c0 : 0 ≤ c) (c1 : c ≤ 255) (d0 : 0 ≤ d) (d1 : d ≤ 255) (l0 : 0 ≤ l) (l1 : l ≤ 255) :
    Calls Try.prog 6 #[.int .u8 c, .int .u8 d, .int .u8 l, .bool o, .int .i64 a, .int .i64 b] w (Says w (.bool true)) := by
  by_cases h : 0 ≤ a ∧ a ≤ 1500000 ∧ 0 ≤ b ∧ b ≤ 1500000
  · exact main c d l o a b w c0 c1 d0 d1 l0 l1 h.1 h.2.1 h.2.2.1 h.2.2.2
  · exact fewer c d l o a b w (by omega)
open Go.ChangeShapes Go.WideShapes Go.ChangeAt
theorem walk (H : Type) (enc : TypeId × Value → H) (W : World) (base : Nat) (v0 v1 v2 v3 v4 v5 : Value) {d0 d1 d2 d3 d4 d5 : DataW H} {p0 p1 p2 p3 p4 p5 : List MemPlace}
    (k0 : Value.okWide Try.prog W .any base 5 v0) (h0 : DataW.Trod enc Try.prog W 0 (fun _ => true) true 5 v0 d0 p0)
    (k1 : Value.okWide Try.prog W .any base 5 v1) (h1 : DataW.Trod enc Try.prog W 0 (fun _ => true) true 5 v1 d1 p1)
    (k2 : Value.okWide Try.prog W .any base 5 v2) (h2 : DataW.Trod enc Try.prog W 0 (fun _ => true) true 5 v2 d2 p2)
    (k3 : Value.okWide Try.prog W .any base 4 v3) (h3 : DataW.Trod enc Try.prog W 0 (fun _ => true) true 4 v3 d3 p3)
    (k4 : Value.okWide Try.prog W .any base 3 v4) (h4 : DataW.Trod enc Try.prog W 0 (fun _ => true) true 3 v4 d4 p4)
    (k5 : Value.okWide Try.prog W .any base 3 v5) (h5 : DataW.Trod enc Try.prog W 0 (fun _ => true) true 3 v5 d5 p5) :
    Calls Try.prog 6 #[v0, v1, v2, v3, v4, v5] W fun e w' => e = .returned (.bool true) ∧ Below W.heap.size W w' := by
  obtain ⟨c, rfl, rfl, rfl, w0⟩ := open_int Try.underlying5 k0 h0
  have b0 := wf_u8 w0
  obtain ⟨d, rfl, rfl, rfl, w1⟩ := open_int Try.underlying5 k1 h1
  have b1 := wf_u8 w1
  obtain ⟨l, rfl, rfl, rfl, w2⟩ := open_int Try.underlying5 k2 h2
  have b2 := wf_u8 w2
  obtain ⟨o, rfl, rfl, rfl⟩ := open_bool Try.underlying4 k3 h3
  obtain ⟨a, rfl, rfl, rfl, w4⟩ := open_int Try.underlying3 k4 h4
  obtain ⟨b, rfl, rfl, rfl, w5⟩ := open_int Try.underlying3 k5 h5
  exact law c d l o a b W b0.1 b0.2 b1.1 b1.2 b2.1 b2.2
end Go.Proofs.Ytniagcbajjmopaa.portsSteps
