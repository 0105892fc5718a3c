/- PortsFrames: the walk. -/
import Derived.Test.YtniagcbajjmopaaPortsQ
import Derived.WalkKit
import Derived.ProofKit
import Derived.OpenShut
namespace Go.Proofs.Ytniagcbajjmopaa.portsFrames
open Go.RowKit
set_option linter.unusedVariables false
set_option linter.unusedSimpArgs false
set_option maxRecDepth 100000
theorem write_is {w : World} {g : Nat} {s : Pt} (A : Po w g s) (F : Fit2 s) (p v : Int) (v0 : 0 ≤ v) (v1 : v ≤ 255) {b : Bool} {s' : Pt} (h : wrP p v s = (b, s')) :
    Calls Try.prog 9 #[poP g, .int .u16 p, .int .u8 v] w (fun e w' => e = .returned (.bool b) ∧ Po w' g s' ∧ Fit2 s' ∧ Upd w g w') := by
  refine (write_gen A F p v v0 v1).mono ?_
  rintro e w' ⟨rfl, a, u⟩
  have f := wrP_fit F p v v0 v1
  rw [h] at a f
  exact ⟨by rw [h], a, f, u⟩
theorem fit_zero (o : Bool) : Fit2 { Pt.zero with over := o, soon := 0 } := by
  constructor
  · constructor <;> simp [Pt.zero]
  all_goals simp [Pt.zero]
/-- The unit as the statement lays it. -/
def st (o : Bool) (c d l : Int) : Pt := { Pt.zero with over := o, control := c, dot := d, line := l }
theorem wr1 (o : Bool) : wrP 16896 176 (st o 0 0 0) = (true, st o 176 0 0) := by simp [wrP, ctlF, st, Pt.zero]
theorem wr2 (o : Bool) (v : Int) : wrP 16903 v (st o 176 0 0) = (true, st o 176 v 0) := by simp [wrP, st, Pt.zero]
theorem wr3 (o : Bool) (d v : Int) (d0 : 0 ≤ d) (d1 : d ≤ 255) : wrP 16904 v (st o 176 d 0) = (true, st o 176 (d + v % 2 * 256) 0) := by
  simp [wrP, st, Pt.zero]; omega
theorem wr4 (o : Bool) (d v : Int) : wrP 16905 v (st o 176 d 0) = (true, st o 176 d v) := by simp [wrP, st, Pt.zero]
theorem wr5 (o : Bool) (d l v : Int) (l0 : 0 ≤ l) (l1 : l ≤ 255) : wrP 16906 v (st o 176 d l) = (true, st o 176 d (l + v % 2 * 256)) := by
  simp [wrP, st, Pt.zero]; omega
theorem and511 (m : Int) (h0 : 0 ≤ m) (h1 : m ≤ 65535) : bits .and .u16 m 511 = m % 512 := by
  have := u16_and_nat m.toNat 511 (by omega) (by omega)
  rw [Int.toNat_of_nonneg h0, show (511 : Nat) = 2 ^ 9 - 1 by decide, Nat.and_two_pow_sub_one_eq_mod] at this
  rw [show ((2 ^ 9 - 1 : Nat) : Int) = 511 by decide] at this
  rw [this]; omega
theorem no_irq {s : Pt} (h : s.irq = false) : { s with come := false } = { s with come := false, irq := false } := by cases s; simp_all
theorem cnt_rng {x t : Int} (x0 : 0 < x) (x1 : x ≤ 357368) (t0 : 0 ≤ t) (t1 : t ≤ 4 * 357368) : 0 ≤ cnt x t ∧ cnt x t ≤ 4 := by unfold cnt; omega
theorem cI_rng {D L t : Int} (d0 : 0 ≤ D) (l0 : 0 ≤ L) (t0 : 0 ≤ t) (t1 : t ≤ 4 * 357368) : 0 ≤ cI D L t ∧ cI D L t ≤ 4 := by
  unfold cI
  split
  · next h => exact cnt_rng (xI_rng d0 l0 h).1 (xI_rng d0 l0 h).2 t0 t1
  · omega
theorem start {o : Bool} {D L : Int} (d0 : 0 ≤ D) (d1 : D ≤ 511) (l0 : 0 ≤ L) (l1 : L ≤ 511) (F : Fit2 (st o 176 D L)) : Polled (st o 176 D L) o D L 0 0 0 := by
  have hx := xB_rng o
  refine ⟨⟨rfl, rfl, rfl, rfl⟩, F.base, ?_, rfl, rfl, rfl, ?_, ?_⟩
  · intro t h1 h2
    exact absurd (Int.lt_trans (show 0 < t from h1) (show t < 0 from h2)) (by omega)
  · rw [cnt_zero (by omega) (by omega)]
  · unfold cI
    split
    · next h => rw [cnt_zero (xI_rng d0 l0 h).1 (xI_rng d0 l0 h).2]
    · rfl
theorem cI_all {D L f : Int} (d0 : 0 ≤ D) (l0 : 0 ≤ L) : cI D L (f * 357368) = if thereI D L then f else 0 := by
  unfold cI
  split
  · next h => exact cnt_all (xI_rng d0 l0 h).1 (xI_rng d0 l0 h).2
  · rfl
set_option maxHeartbeats 8000000 in
theorem main (dot line frames : Int) (o : Bool) (w : World) (d0 : 0 ≤ dot) (d1 : dot ≤ 65535) (l0 : 0 ≤ line) (l1 : line ≤ 65535) (f0 : 1 ≤ frames) (f1 : frames ≤ 4) :
    Calls Try.prog 4 #[.int .u16 dot, .int .u16 line, .int .i64 frames, .bool o] w (Says w (.bool true)) := by
  have AW := Lib.hid awake_any
  have HR := Lib.hid (and511 dot d0 d1)
  have HS := Lib.hid (and511 line l0 l1)
  obtain ⟨D, hD⟩ : ∃ D, dot % 512 = D := ⟨_, rfl⟩
  obtain ⟨L, hL⟩ : ∃ L, line % 512 = L := ⟨_, rfl⟩
  have D0 : 0 ≤ D := by omega
  have D1 : D ≤ 511 := by omega
  have L0 : 0 ≤ L := by omega
  have L1 : L ≤ 511 := by omega
  have HDD := Lib.hid (show dot % 256 + dot / 256 % 2 * 256 = D by omega)
  have HLL := Lib.hid (show line % 256 + line / 256 % 2 * 256 = L by omega)
  rw [hD] at HR
  rw [hL] at HS
  go_enter Try.func4, Try.ntmps4
  try simp only [List.append_eq, List.cons_append, List.nil_append]
  go_wp2_with fail
  refine (new_any w).mono ?_
  rintro e w1 ⟨g, rfl, hg, a', hb1⟩
  have A1 := Lib.hid a'
  have B1 := Lib.hid hb1
  clear a' hb1
  go_wp2_with fail
  refine (over_any A1.out o).mono ?_
  rintro e w2 ⟨rfl, a', u'⟩
  have A2 : Hid (Po w2 g (st o 0 0 0)) := Lib.hid a'
  have F2 : Hid (Fit2 (st o 0 0 0)) := Lib.hid (fit_zero o)
  have B2 := Lib.hid (u'.out B1.out hg)
  clear a' u' A1 B1
  go_wp2_with fail
  refine (write_is A2.out F2.out 16896 176 (by omega) (by omega) (wr1 o)).mono ?_
  rintro e w3 ⟨rfl, a', f', u'⟩
  have A3 := Lib.hid a'
  have F3 := Lib.hid f'
  have B3 := Lib.hid (u'.out B2.out hg)
  clear a' f' u' A2 B2 F2
  go_wp2_with fail
  refine (write_is A3.out F3.out 16903 (dot % 256) (by omega) (by omega) (wr2 o _)).mono ?_
  rintro e w4 ⟨rfl, a', f', u'⟩
  have A4 := Lib.hid a'
  have F4 := Lib.hid f'
  have B4 := Lib.hid (u'.out B3.out hg)
  clear a' f' u' A3 B3 F3
  go_wp2_with fail
  refine (write_is A4.out F4.out 16904 (dot / 256) (by omega) (by omega) (wr3 o _ _ (by omega) (by omega))).mono ?_
  rw [HDD.out]
  rintro e w5 ⟨rfl, a', f', u'⟩
  have A5 := Lib.hid a'
  have F5 := Lib.hid f'
  have B5 := Lib.hid (u'.out B4.out hg)
  clear a' f' u' A4 B4 F4
  go_wp2_with fail
  refine (write_is A5.out F5.out 16905 (line % 256) (by omega) (by omega) (wr4 o _ _)).mono ?_
  rintro e w6 ⟨rfl, a', f', u'⟩
  have A6 := Lib.hid a'
  have F6 := Lib.hid f'
  have B6 := Lib.hid (u'.out B5.out hg)
  clear a' f' u' A5 B5 F5
  go_wp2_with fail
  refine (write_is A6.out F6.out 16906 (line / 256) (by omega) (by omega) (wr5 o _ _ _ (by omega) (by omega))).mono ?_
  rw [HLL.out]
  rintro e w7 ⟨rfl, a', f', u'⟩
  have A7 := Lib.hid a'
  have P7 := Lib.hid (start D0 D1 L0 L1 f')
  have B7 := Lib.hid (u'.out B6.out hg)
  clear a' f' u' A6 B6 F6 HDD HLL
  go_wp2_with fail
  go_loopw [10, 11, 12] (fun n10 n11 n12 wr => ∃ (s : Pt) (t nm ir : Int), n10 = .int .i64 nm ∧ n11 = .int .i64 ir ∧ n12 = .int .i64 (t + 100) ∧ 0 ≤ t ∧ t < frames * 357368 ∧ Po wr g s ∧ Polled s o D L t nm ir ∧ Below w.heap.size w wr) (fun _ _ n12 _ => (frames * 357368 + 200 - intOf n12).toNat)
  case atStart => exact ⟨_, 0, 0, 0, rfl, rfl, rfl, by omega, by omega, A7.out, P7.out, B7.out⟩
  case round =>
    obtain ⟨s, t, nm, ir, rfl, rfl, rfl, t0, t1, a, p, bw⟩ := hrel
    have AA := Lib.hid a
    have PP := Lib.hid p
    have BW := Lib.hid bw
    have hn : s.now = t := p.now
    have HX := Lib.hid (xB_rng o)
    have hnm : 0 ≤ nm ∧ nm ≤ 4 := by rw [p.nm]; have hx := HX.out; exact cnt_rng (by omega) (by omega) t0 (by omega)
    have hir : 0 ≤ ir ∧ ir ≤ 4 := by rw [p.ir]; exact cI_rng D0 L0 t0 (by omega)
    have HN := Lib.hid hn
    clear a p bw A7 P7 B7 hn
    by_cases hlt : t + 100 < frames * 357368
    · go_wp2_with fail
      refine (advance_any AA.out PP.out.fit PP.out.ok (t + 100) (by rw [HN.out]; omega) (by omega)).mono ?_
      rintro e w2 ⟨rfl, s', a2, gg, hn', u2⟩
      obtain ⟨e1, e2, pn⟩ := PP.out.next D0 L0 gg hn' (by omega) (by omega)
      have A2 := Lib.hid a2
      have B2 := Lib.hid (u2.out BW.out hg)
      have PN := Lib.hid pn
      clear e1 e2 pn a2 u2 gg hn' AA BW PP HN
      have NM := Lib.hid (nmi_any A2.out)
      obtain ⟨b1, hb1⟩ : ∃ b1, s'.come = b1 := ⟨_, rfl⟩
      obtain ⟨b2, hb2⟩ : ∃ b2, s'.irq = b2 := ⟨_, rfl⟩
      rw [hb1] at NM PN
      rw [hb2] at PN
      have HB2 := Lib.hid hb2
      clear hb1 hb2
      cases b1
      all_goals
        go_wp2_with fail
        refine NM.out.mono ?_
        rintro e w3 ⟨rfl, a3, u3⟩
        have A3 := Lib.hid a3
        have B3 := Lib.hid (u3.out B2.out hg)
        have IQ : Hid (∀ w', Po w' g { s' with come := false } → Calls Try.prog _ _ w' (Says w' (.bool b2))) := Lib.hid (fun w' a => by have := irq_any a; rw [show ({ s' with come := false } : Pt).irq = b2 from HB2.out] at this; exact this)
        clear a3 u3 B2 A2 NM
        cases b2
        · go_wp2_with fail
          refine (IQ.out _ A3.out).mono ?_
          rintro e w4 ⟨rfl, hb4⟩
          have A4 := Lib.hid (A3.out.kept hb4)
          have B4 := Lib.hid (B3.out.trans (hb4.mono B3.out.size))
          rw [no_irq HB2.out] at A4
          clear hb4 A3 B3
          go_wp2_with fail
          go_roundw
          case rel => exact ⟨_, t + 100, _, _, by simp, by simp, by go_num, by omega, hlt, A4.out, PN.out, B4.out⟩
          case measure => simp [intOf]; omega
        · go_wp2_with fail
          refine (IQ.out _ A3.out).mono ?_
          rintro e w4 ⟨rfl, hb4⟩
          have A4 := Lib.hid (A3.out.kept hb4)
          have B4 := Lib.hid (B3.out.trans (hb4.mono B3.out.size))
          clear hb4 A3 B3
          go_wp2_with fail
          refine (read_irq A4.out 0).mono ?_
          rintro e w5 ⟨rfl, a5, u5⟩
          have A5 := Lib.hid a5
          have B5 := Lib.hid (u5.out B4.out hg)
          clear a5 u5 A4 B4
          go_wp2_with fail
          go_roundw
          case rel => exact ⟨_, t + 100, _, _, by simp, by simp, by go_num, by omega, hlt, A5.out, PN.out, B5.out⟩
          case measure => simp [intOf]; omega
    · go_wp2_with fail
      refine (advance_any AA.out PP.out.fit PP.out.ok (frames * 357368) (by rw [HN.out]; omega) (by omega)).mono ?_
      rintro e w2 ⟨rfl, s', a2, gg, hn', u2⟩
      obtain ⟨e1, e2, pn⟩ := PP.out.next D0 L0 gg hn' (by omega) (by omega)
      have A2 := Lib.hid a2
      have B2 := Lib.hid (u2.out BW.out hg)
      have hx := HX.out
      have hnm2 : nm = frames := by rw [PP.out.nm]; exact cnt_last (by omega) (by omega) (by omega) (by omega)
      subst hnm2
      have hir2 : ir + (if s'.irq = true then 1 else 0) = if thereI D L then nm else 0 := by rw [pn.ir, cI_all D0 L0]
      have IQ := Lib.hid (irq_any A2.out)
      obtain ⟨b2, hb2⟩ : ∃ b2, s'.irq = b2 := ⟨_, rfl⟩
      rw [hb2] at hir2 IQ
      have ht : thereI D L = (decide (4 * D < 1364) && decide (L < 262)) := rfl
      rw [ht] at hir2
      have RR := HR.out
      have SS := HS.out
      clear e1 e2 pn a2 u2 gg hn' AA BW PP HN hb2 hx HX ht
      cases b2
      all_goals
        by_cases k1 : D * 4 < 1364
        all_goals
          by_cases k2 : L < 262
          all_goals
            first
              | rw [decide_eq_true (show 4 * D < 1364 by omega)] at hir2
              | rw [decide_eq_false (show ¬ 4 * D < 1364 by omega)] at hir2
            first
              | rw [decide_eq_true k2] at hir2
              | rw [decide_eq_false k2] at hir2
            simp only [Bool.and_true, Bool.true_and, Bool.and_false, Bool.false_and, if_true, Bool.false_eq_true, if_false, Int.add_zero] at hir2
            go_wp2_with fail
            refine IQ.out.mono ?_
            rintro e w4 ⟨rfl, hb4⟩
            have B4 := Lib.hid (B2.out.trans (hb4.mono B2.out.size))
            clear hb4
            go_wp2_with fail
            all_goals
              refine (AW.out _).mono ?_
              rintro e wz ⟨rfl, hbz⟩
              have BZ := Lib.hid (B4.out.trans (hbz.mono B4.out.size))
              clear hbz
              go_wp2_with fail
              go_ret
              exact ⟨rfl, BZ.out⟩
set_option maxHeartbeats 2000000 in
theorem fewer (dot line frames : Int) (o : Bool) (w : World) (f0 : frames < 1 ∨ 4 < frames) :
    Calls Try.prog 4 #[.int .u16 dot, .int .u16 line, .int .i64 frames, .bool o] w (Says w (.bool true)) := by
  have AW := Lib.hid awake_any
  by_cases h : frames < 1
  · go_enter Try.func4, Try.ntmps4
    go_wp2_with fail
    refine (AW.out _).mono ?_
    rintro e wz ⟨rfl, hbz⟩
    go_wp2_with fail
    go_ret
    exact ⟨rfl, hbz⟩
  · have h4 : 4 < frames := by omega
    go_enter Try.func4, Try.ntmps4
    go_wp2_with fail
    refine (AW.out _).mono ?_
    rintro e wz ⟨rfl, hbz⟩
    go_wp2_with fail
    go_ret
    exact ⟨rfl, hbz⟩
theorem law (dot line frames : Int) (o : Bool) (w : World) (d0 : 0 ≤ dot) (d1 : dot ≤ 65535) (l0 : 0 ≤ line) (l1 : line ≤ 65535) :
    Calls Try.prog 4 #[.int .u16 dot, .int .u16 line, .int .i64 frames, .bool o] w (Says w (.bool true)) := by
  by_cases h : 1 ≤ frames ∧ frames ≤ 4
  · exact main dot line frames o w d0 d1 l0 l1 h.1 h.2
  · exact fewer dot line frames o w (by omega)
open Go.ChangeShapes Go.WideShapes Go.ChangeAt
theorem walk (H : Type) (enc : TypeId × Value → H) (W : World) (base : Nat) (v0 v1 v2 v3 : Value) {d0 d1 d2 d3 : DataW H} {p0 p1 p2 p3 : List MemPlace}
    (k0 : Value.okWide Try.prog W .any base 22 v0) (h0 : DataW.Trod enc Try.prog W 0 (fun _ => true) true 22 v0 d0 p0)
    (k1 : Value.okWide Try.prog W .any base 22 v1) (h1 : DataW.Trod enc Try.prog W 0 (fun _ => true) true 22 v1 d1 p1)
    (k2 : Value.okWide Try.prog W .any base 3 v2) (h2 : DataW.Trod enc Try.prog W 0 (fun _ => true) true 3 v2 d2 p2)
    (k3 : Value.okWide Try.prog W .any base 4 v3) (h3 : DataW.Trod enc Try.prog W 0 (fun _ => true) true 4 v3 d3 p3) :
    Calls Try.prog 4 #[v0, v1, v2, v3] W fun e w' => e = .returned (.bool true) ∧ Below W.heap.size W w' := by
  obtain ⟨dot, rfl, rfl, rfl, w0⟩ := open_int Try.underlying22 k0 h0
  have b0 := wf_u16 w0
  obtain ⟨line, rfl, rfl, rfl, w1⟩ := open_int Try.underlying22 k1 h1
  have b1 := wf_u16 w1
  obtain ⟨frames, rfl, rfl, rfl, w2⟩ := open_int Try.underlying3 k2 h2
  obtain ⟨o, rfl, rfl, rfl⟩ := open_bool Try.underlying4 k3 h3
  exact law dot line frames o W b0.1 b0.2 b1.1 b1.2
end Go.Proofs.Ytniagcbajjmopaa.portsFrames
