/- PortsPads: the walk. -/
import Derived.Test.YtniagcbajjmopaaPortsI
import Derived.WalkKit
import Derived.ProofKit
import Derived.OpenShut
namespace Go.Proofs.Ytniagcbajjmopaa.portsPads
open Go.RowKit
set_option linter.unusedVariables false
set_option linter.unusedSimpArgs false
set_option maxRecDepth 100000
theorem and1_16 (m : Int) (h0 : 0 ≤ m) (h1 : m ≤ 65535) : bits .and .u16 m 1 = m % 2 := by
  have := u16_and_nat m.toNat 1 (by omega) (by omega)
  rw [Int.toNat_of_nonneg h0, show (1 : Nat) = 2 ^ 1 - 1 by decide, Nat.and_two_pow_sub_one_eq_mod] at this
  rw [show ((2 ^ 1 - 1 : Nat) : Int) = 1 by decide] at this
  rw [this]; omega
theorem tmod5 (x : Int) : -4 ≤ x.tmod 5 ∧ x.tmod 5 ≤ 4 := by
  have h1 := Int.tmod_lt_of_pos x (show (0 : Int) < 5 by omega)
  have h2 := Int.lt_tmod_of_pos x (show (0 : Int) < 5 by omega)
  omega
set_option maxHeartbeats 8000000 in
theorem pads_0 (v later op more : Int) (w : World) (v0 : 0 ≤ v) (v1 : v ≤ 65535) (l0 : 0 ≤ later) (l1 : later ≤ 65535) (o0 : 0 ≤ op) (o1 : op ≤ 255) (m0 : -9223372036854775808 ≤ more) (m1 : more ≤ 9223372036854775807) :
    Calls Try.prog 5 #[.int .i64 0, .int .u16 v, .int .u16 later, .int .u8 op, .int .i64 more] w (Says w (.bool true)) := by
  have AW := Lib.hid awake_any
  obtain ⟨t0, t1⟩ := tmod5 more
  obtain ⟨m, hm⟩ : ∃ m, more.tmod 5 = m := ⟨_, rfl⟩
  rw [hm] at t0 t1
  obtain ⟨b, hb⟩ : ∃ b, v / 32768 = b := ⟨_, rfl⟩
  have hbb : b = 0 ∨ b = 1 := by omega
  have hb2 : v / 32768 % 256 = b := by omega
  obtain ⟨r0, r1, r2, r3⟩ := padA_is op b o0 o1 hbb
  go_enter Try.func5, Try.ntmps5
  try simp only [List.append_eq, List.cons_append, List.nil_append]
  go_wp2_with fail
  refine (new_any w).mono ?_
  rintro e w1 ⟨g, rfl, hg, a', hb1⟩
  have A1 := Lib.hid a'
  have B1 := Lib.hid hb1
  clear a' hb1
  go_wp2_with fail
  refine (pad_0 A1.out v).mono ?_
  rintro e w2 ⟨rfl, a', u'⟩
  have A2 := Lib.hid a'
  have B2 := Lib.hid (u'.out B1.out hg)
  clear a' u' A1 B1
  go_wp2_with fail
  refine (write_hold1 A2.out).mono ?_
  rintro e w3 ⟨rfl, a', u'⟩
  have A3 := Lib.hid a'
  have B3 := Lib.hid (u'.out B2.out hg)
  clear a' u' A2 B2
  go_wp2_with fail
  have RH := readHeld_0 A3.out rfl op
  rw [show (padA op (Pt.say0 _ / 32768 % 256)) = padA op b from congrArg (padA op) hb2] at RH
  refine RH.mono ?_
  rintro e w4 ⟨rfl, hb4⟩
  have A4 := Lib.hid (A3.out.kept hb4)
  have B4 := Lib.hid (B3.out.trans (hb4.mono B3.out.size))
  obtain ⟨r, hr⟩ : ∃ r, padA op b = r := ⟨_, rfl⟩
  rw [hr] at r0 r1 r2 r3 ⊢
  clear hb4 A3 B3 RH
  go_wp2_with fail
  refine (write_hold0 A4.out).mono ?_
  rintro e w5 ⟨rfl, a', u'⟩
  have A5 := Lib.hid a'
  have B5 := Lib.hid (u'.out B4.out hg)
  clear a' u' A4 B4
  go_wp2_with fail
  refine (pad_0 A5.out later).mono ?_
  rintro e w6 ⟨rfl, a', u'⟩
  have S6 : Hid (∃ s : Pt, Po w6 g s ∧ s.held = false ∧ s.shift0 = shl v 0) := ⟨_, a', rfl, by show v = shl v 0; unfold shl; simp; omega⟩
  have B6 := Lib.hid (u'.out B5.out hg)
  clear a' u' A5 B5
  go_wp2_with fail
  go_loopw [14] (fun i wr => ∃ (j : Nat) (s : Pt), j ≤ 20 ∧ i = .int .i64 j ∧ Po wr g s ∧ s.held = false ∧ s.shift0 = shl v j ∧ Below w.heap.size w wr) (fun i _ => 20 - (intOf i).toNat)
  case atStart =>
    obtain ⟨s, a, h1, h2⟩ := S6.out
    exact ⟨0, s, by omega, rfl, a, h1, h2, B6.out⟩
  case round =>
    obtain ⟨j, s, hj, rfl, a, h1, h2, bw⟩ := hrel
    have A := Lib.hid a
    have BW := Lib.hid bw
    have H1 := Lib.hid h1
    have H2 := Lib.hid h2
    clear a bw h1 h2 S6 B6 r0 r1 r2 r3 hr
    by_cases hlt : (j : Int) < 16 + m
    · have sr := shl_rng v j
      have RD := read_0 A.out H1.out (by rw [H2.out]; exact sr.1) (by rw [H2.out]; exact sr.2) op
      rw [H2.out, shl_bit v v0 v1 j hj, shl_next] at RD
      obtain ⟨bi, hbi'⟩ : ∃ bi, wantB v j = bi := ⟨_, rfl⟩
      have hbi : bi = 0 ∨ bi = 1 := by rw [← hbi']; exact wantB_is v j
      rw [hbi'] at RD
      obtain ⟨q0, q1, q2, q3⟩ := padA_is op bi o0 o1 hbi
      obtain ⟨rv, hrv⟩ : ∃ rv, padA op bi = rv := ⟨_, rfl⟩
      rw [hrv] at q0 q1 q2 q3 RD
      have RDH := Lib.hid RD
      have HW := Lib.hid hbi'
      clear RD hbi' hrv
      go_wp2_with fail
      refine RDH.out.mono ?_
      rintro e w2' ⟨rfl, a2, u2⟩
      have A2 := Lib.hid a2
      have B2 := Lib.hid (u2.out BW.out hg)
      clear a2 u2 RDH A BW
      by_cases h16 : j < 16
      · have hw := HW.out
        unfold wantB at hw
        rw [if_pos h16] at hw
        have x0 : 0 ≤ v / 2 ^ (15 - j) := Int.ediv_nonneg v0 (Int.le_of_lt (Int.pow_pos (by decide)))
        have x1 : v / 2 ^ (15 - j) ≤ v := Int.ediv_le_self _ v0
        have hand : bits .and .u16 (v / 2 ^ (15 - j)) 1 % 256 = bi := by rw [and1_16 _ x0 (by omega), hw]; omega
        clear hw x0 x1
        go_wp2_with fail
        go_roundw
        case rel => exact ⟨j + 1, _, by omega, by go_num, A2.out, H1.out, rfl, B2.out⟩
        case measure => simp [intOf]; omega
      · have hw := HW.out
        unfold wantB at hw
        rw [if_neg h16] at hw
        subst hw
        go_wp2_with fail
        go_roundw
        case rel => exact ⟨j + 1, _, by omega, by go_num, A2.out, H1.out, rfl, B2.out⟩
        case measure => simp [intOf]; omega
    · go_wp2_with fail
      refine (AW.out _).mono ?_
      rintro e w3' ⟨rfl, hb3⟩
      have B3 := Lib.hid (BW.out.trans (hb3.mono BW.out.size))
      clear hb3
      go_wp2_with fail
      go_ret
      exact ⟨rfl, B3.out⟩
set_option maxHeartbeats 8000000 in
theorem pads_1 (v later op more : Int) (w : World) (v0 : 0 ≤ v) (v1 : v ≤ 65535) (l0 : 0 ≤ later) (l1 : later ≤ 65535) (o0 : 0 ≤ op) (o1 : op ≤ 255) (m0 : -9223372036854775808 ≤ more) (m1 : more ≤ 9223372036854775807) :
    Calls Try.prog 5 #[.int .i64 1, .int .u16 v, .int .u16 later, .int .u8 op, .int .i64 more] w (Says w (.bool true)) := by
  have AW := Lib.hid awake_any
  obtain ⟨t0, t1⟩ := tmod5 more
  obtain ⟨m, hm⟩ : ∃ m, more.tmod 5 = m := ⟨_, rfl⟩
  rw [hm] at t0 t1
  obtain ⟨b, hb⟩ : ∃ b, v / 32768 = b := ⟨_, rfl⟩
  have hbb : b = 0 ∨ b = 1 := by omega
  have hb2 : v / 32768 % 256 = b := by omega
  obtain ⟨r0, r1, r2, r3, r4⟩ := padB_is op b o0 o1 hbb
  go_enter Try.func5, Try.ntmps5
  try simp only [List.append_eq, List.cons_append, List.nil_append]
  go_wp2_with fail
  refine (new_any w).mono ?_
  rintro e w1 ⟨g, rfl, hg, a', hb1⟩
  have A1 := Lib.hid a'
  have B1 := Lib.hid hb1
  clear a' hb1
  go_wp2_with fail
  refine (pad_1 A1.out v).mono ?_
  rintro e w2 ⟨rfl, a', u'⟩
  have A2 := Lib.hid a'
  have B2 := Lib.hid (u'.out B1.out hg)
  clear a' u' A1 B1
  go_wp2_with fail
  refine (write_hold1 A2.out).mono ?_
  rintro e w3 ⟨rfl, a', u'⟩
  have A3 := Lib.hid a'
  have B3 := Lib.hid (u'.out B2.out hg)
  clear a' u' A2 B2
  go_wp2_with fail
  have RH := readHeld_1 A3.out rfl op
  rw [show (padB op (Pt.say1 _ / 32768 % 256)) = padB op b from congrArg (padB op) hb2] at RH
  refine RH.mono ?_
  rintro e w4 ⟨rfl, hb4⟩
  have A4 := Lib.hid (A3.out.kept hb4)
  have B4 := Lib.hid (B3.out.trans (hb4.mono B3.out.size))
  obtain ⟨r, hr⟩ : ∃ r, padB op b = r := ⟨_, rfl⟩
  rw [hr] at r0 r1 r2 r3 r4 ⊢
  clear hb4 A3 B3 RH
  go_wp2_with fail
  refine (write_hold0 A4.out).mono ?_
  rintro e w5 ⟨rfl, a', u'⟩
  have A5 := Lib.hid a'
  have B5 := Lib.hid (u'.out B4.out hg)
  clear a' u' A4 B4
  go_wp2_with fail
  refine (pad_1 A5.out later).mono ?_
  rintro e w6 ⟨rfl, a', u'⟩
  have S6 : Hid (∃ s : Pt, Po w6 g s ∧ s.held = false ∧ s.shift1 = shl v 0) := ⟨_, a', rfl, by show v = shl v 0; unfold shl; simp; omega⟩
  have B6 := Lib.hid (u'.out B5.out hg)
  clear a' u' A5 B5
  go_wp2_with fail
  go_loopw [14] (fun i wr => ∃ (j : Nat) (s : Pt), j ≤ 20 ∧ i = .int .i64 j ∧ Po wr g s ∧ s.held = false ∧ s.shift1 = shl v j ∧ Below w.heap.size w wr) (fun i _ => 20 - (intOf i).toNat)
  case atStart =>
    obtain ⟨s, a, h1, h2⟩ := S6.out
    exact ⟨0, s, by omega, rfl, a, h1, h2, B6.out⟩
  case round =>
    obtain ⟨j, s, hj, rfl, a, h1, h2, bw⟩ := hrel
    have A := Lib.hid a
    have BW := Lib.hid bw
    have H1 := Lib.hid h1
    have H2 := Lib.hid h2
    clear a bw h1 h2 S6 B6 r0 r1 r2 r3 r4 hr
    by_cases hlt : (j : Int) < 16 + m
    · have sr := shl_rng v j
      have RD := read_1 A.out H1.out (by rw [H2.out]; exact sr.1) (by rw [H2.out]; exact sr.2) op
      rw [H2.out, shl_bit v v0 v1 j hj, shl_next] at RD
      obtain ⟨bi, hbi'⟩ : ∃ bi, wantB v j = bi := ⟨_, rfl⟩
      have hbi : bi = 0 ∨ bi = 1 := by rw [← hbi']; exact wantB_is v j
      rw [hbi'] at RD
      obtain ⟨q0, q1, q2, q3, q4⟩ := padB_is op bi o0 o1 hbi
      obtain ⟨rv, hrv⟩ : ∃ rv, padB op bi = rv := ⟨_, rfl⟩
      rw [hrv] at q0 q1 q2 q3 q4 RD
      have RDH := Lib.hid RD
      have HW := Lib.hid hbi'
      clear RD hbi' hrv
      go_wp2_with fail
      refine RDH.out.mono ?_
      rintro e w2' ⟨rfl, a2, u2⟩
      have A2 := Lib.hid a2
      have B2 := Lib.hid (u2.out BW.out hg)
      clear a2 u2 RDH A BW
      by_cases h16 : j < 16
      · have hw := HW.out
        unfold wantB at hw
        rw [if_pos h16] at hw
        have x0 : 0 ≤ v / 2 ^ (15 - j) := Int.ediv_nonneg v0 (Int.le_of_lt (Int.pow_pos (by decide)))
        have x1 : v / 2 ^ (15 - j) ≤ v := Int.ediv_le_self _ v0
        have hand : bits .and .u16 (v / 2 ^ (15 - j)) 1 % 256 = bi := by rw [and1_16 _ x0 (by omega), hw]; omega
        clear hw x0 x1
        go_wp2_with fail
        go_roundw
        case rel => exact ⟨j + 1, _, by omega, by go_num, A2.out, H1.out, rfl, B2.out⟩
        case measure => simp [intOf]; omega
      · have hw := HW.out
        unfold wantB at hw
        rw [if_neg h16] at hw
        subst hw
        go_wp2_with fail
        go_roundw
        case rel => exact ⟨j + 1, _, by omega, by go_num, A2.out, H1.out, rfl, B2.out⟩
        case measure => simp [intOf]; omega
    · go_wp2_with fail
      refine (AW.out _).mono ?_
      rintro e w3' ⟨rfl, hb3⟩
      have B3 := Lib.hid (BW.out.trans (hb3.mono BW.out.size))
      clear hb3
      go_wp2_with fail
      go_ret
      exact ⟨rfl, B3.out⟩
set_option maxHeartbeats 2000000 in
theorem law (k v later op more : Int) (w : World) (k0 : -9223372036854775808 ≤ k) (k1 : k ≤ 9223372036854775807) (v0 : 0 ≤ v) (v1 : v ≤ 65535) (l0 : 0 ≤ later) (l1 : later ≤ 65535) (o0 : 0 ≤ op) (o1 : op ≤ 255) (m0 : -9223372036854775808 ≤ more) (m1 : more ≤ 9223372036854775807) :
    Calls Try.prog 5 #[.int .i64 k, .int .u16 v, .int .u16 later, .int .u8 op, .int .i64 more] w (Says w (.bool true)) := by
  by_cases h0 : k < 0
  · have AW := Lib.hid awake_any
    go_enter Try.func5, Try.ntmps5
    try simp only [List.append_eq, List.cons_append, List.nil_append]
    go_wp2_with fail
    refine (AW.out _).mono ?_
    rintro e w1 ⟨rfl, hb⟩
    go_wp2_with fail
    go_ret
    exact ⟨rfl, hb⟩
  by_cases h1 : 1 < k
  · have AW := Lib.hid awake_any
    go_enter Try.func5, Try.ntmps5
    try simp only [List.append_eq, List.cons_append, List.nil_append]
    go_wp2_with fail
    refine (AW.out _).mono ?_
    rintro e w1 ⟨rfl, hb⟩
    go_wp2_with fail
    go_ret
    exact ⟨rfl, hb⟩
  rcases (show k = 0 ∨ k = 1 by omega) with rfl | rfl
  · exact pads_0 v later op more w v0 v1 l0 l1 o0 o1 m0 m1
  · exact pads_1 v later op more w v0 v1 l0 l1 o0 o1 m0 m1
open Go.ChangeShapes Go.WideShapes Go.ChangeAt
theorem walk (H : Type) (enc : TypeId × Value → H) (W : World) (base : Nat) (v0 v1 v2 v3 v4 : Value) {d0 d1 d2 d3 d4 : DataW H} {p0 p1 p2 p3 p4 : List MemPlace}
    (k0 : Value.okWide Try.prog W .any base 3 v0) (h0 : DataW.Trod enc Try.prog W 0 (fun _ => true) true 3 v0 d0 p0)
    (k1 : Value.okWide Try.prog W .any base 22 v1) (h1 : DataW.Trod enc Try.prog W 0 (fun _ => true) true 22 v1 d1 p1)
    (k2 : Value.okWide Try.prog W .any base 22 v2) (h2 : DataW.Trod enc Try.prog W 0 (fun _ => true) true 22 v2 d2 p2)
    (k3 : Value.okWide Try.prog W .any base 5 v3) (h3 : DataW.Trod enc Try.prog W 0 (fun _ => true) true 5 v3 d3 p3)
    (k4 : Value.okWide Try.prog W .any base 3 v4) (h4 : DataW.Trod enc Try.prog W 0 (fun _ => true) true 3 v4 d4 p4) :
    Calls Try.prog 5 #[v0, v1, v2, v3, v4] W fun e w' => e = .returned (.bool true) ∧ Below W.heap.size W w' := by
  obtain ⟨k, rfl, rfl, rfl, w0⟩ := open_int Try.underlying3 k0 h0
  have b0 := wf_i64 w0
  obtain ⟨v, rfl, rfl, rfl, w1⟩ := open_int Try.underlying22 k1 h1
  have b1 := wf_u16 w1
  obtain ⟨later, rfl, rfl, rfl, w2⟩ := open_int Try.underlying22 k2 h2
  have b2 := wf_u16 w2
  obtain ⟨op, rfl, rfl, rfl, w3⟩ := open_int Try.underlying5 k3 h3
  have b3 := wf_u8 w3
  obtain ⟨more, rfl, rfl, rfl, w4⟩ := open_int Try.underlying3 k4 h4
  have b4 := wf_i64 w4
  exact law k v later op more W b0.1 b0.2 b1.1 b1.2 b2.1 b2.2 b3.1 b3.2 b4.1 b4.2
end Go.Proofs.Ytniagcbajjmopaa.portsPads
