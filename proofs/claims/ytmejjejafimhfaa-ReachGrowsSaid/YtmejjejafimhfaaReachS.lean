/- The modes by the stack. -/
import Derived.Test.YtmejjejafimhfaaReachD
import Derived.StillTailTactics
namespace Go.Proofs.Ytmejjejafimhfaa
open Go.RowKit
set_option linter.unusedVariables false
set_option linter.unusedSimpArgs false

def mStack (mode : Int) (s : St) : (Int × Bool) × St :=
  let q := mFetch s
  let at_ := (s.r.s + q.1) % 65536
  let s2 := mIdle q.2
  if mode = 21 then ((at_, true), s2)
  else
    let lo := mRead at_ s2
    let hi := mRead (nextOf at_ true) lo.2
    (((bankOf s.r (lo.1 + hi.1 * 256) + s.r.y) % 16777216, false), mIdle hi.2)

set_option maxRecDepth 100000 in
set_option maxHeartbeats 4000000 in
theorem stack_m (c m u wd : Int) (nm : ByteArray) (g : Nat) (s : St) (w : World) (h : In w g s) :
    Calls Try.prog 31 #[.pointer (some ⟨g, 0, none⟩), codeV c nm m u wd] w (Ret w g (placeV (mStack m s).1.1 (mStack m s).1.2) (mStack m s).2) := by
  obtain ⟨_, _, _, _, y0, y1, s0, s1', _, _, _, _, bb0, bb1, _⟩ := h.ok
  have lg := h.lt
  have H := Lib.hid h
  obtain ⟨o0, o1⟩ := mFetch_rng h
  obtain ⟨⟨o, s1⟩, hq⟩ : ∃ q, mFetch s = q := ⟨_, rfl⟩
  have hsr := sameR_fetch s
  rw [hq] at hsr o0 o1
  simp only at o0 o1
  have HQ := Lib.hid hq
  have HR := Lib.hid hsr
  have L2 := laid2 w g lg c m u wd nm
  obtain ⟨ad, had⟩ : ∃ ad, (s.r.s + o) % 65536 = ad := ⟨_, rfl⟩
  have ad0 : 0 ≤ ad ∧ ad ≤ 65535 := by omega
  obtain ⟨ad1, ad2⟩ := ad0
  have ew1 : IntKind.u16.wrap o = o := by rw [IntKind.wrap_u16]; omega
  have ew2 : IntKind.u16.wrap (s.r.s + o) = ad := by rw [IntKind.wrap_u16]; exact had
  have ew3 : IntKind.u32.wrap ad = ad := by rw [IntKind.wrap_u32]; omega
  have HAD := Lib.hid had
  clear h hq hsr had
  go_enter Try.func31, Try.ntmps31
  go_wp2_with fail
  obtain ⟨W1, hW⟩ : ∃ W1, W1 = (w.alloc (.cells #[.int .u8 c, .string nm, .int .u8 m, .int .u8 u, .int .u8 wd] 23)).alloc (.cells #[.int .u32 0, .bool false] 31) := ⟨_, rfl⟩
  rw [← hW] at L2 ⊢
  obtain ⟨B, hB⟩ : ∃ B, B = w.heap.size := ⟨_, rfl⟩
  rw [← hB] at L2 ⊢
  obtain ⟨ow, cm, kb⟩ := L2
  have hgB : g < B + 1 := by omega
  have hwB : w.heap.size ≤ B + 1 := by omega
  have U0 := Lib.hid (Upd.ofBelow (show Below w.heap.size w W1 by rw [← hB]; exact kb) g)
  have H1 := Lib.hid (H.out.upd (show Below w.heap.size w W1 by rw [← hB]; exact kb))
  have OW := Lib.hid ow
  have hBg : B ≠ g := by omega
  have hBW : B + 1 < W1.heap.size := ow.b.lt
  obtain ⟨_, _, _, c3, _⟩ := H1.out.regs
  have k0 : Below W1.heap.size W1 W1 := Below.refl _ _
  have CM := Lib.hid cm
  have lg1 := H1.out.lt
  clear hW hB kb ow cm H
  have Z : Hid (∀ w', Upd (W1.alloc (.cells #[.int .u32 0, .bool false] 31)).drew g w' → Own w' g W1.heap.size 0 false) := fun w' hu => Own.upd ⟨(Blk.new W1 _ _).drew, lg1⟩ hu
  go_cut [5] from 8 to 18 (fun s5 wx => ∃ G5, s5 = .pointer (some ⟨G5, 0, none⟩) ∧ Own wx g G5 ad true ∧ In wx g s1 ∧ Own wx g (B + 1) 0 false ∧ Upd W1 g wx ∧ B + 1 < G5)
  case first =>
    go_region_held3 (fun w' => w'.cell? ⟨g, 3, none⟩ = some (.int .u16 s.r.s))
      (first
        | exact c3
        | exact keepAlloc c3 _
        | exact r3
        | exact keepAlloc r3 _
        | exact keepSet (keepSet r3 gne) gne)
      (first
        | (go_at_call 32; refine (fetch_m g s _ (H1.out.upd ?_)).mono ?_; (focus ((repeat (first | exact Below.refl _ _ | apply belowA | apply belowD)); done)); rw [HQ.out]; rintro e w1 ⟨rfl, k1, u1⟩; have r3 := k1.regs.2.2.2.1; rw [HR.out.2.2.2.1] at r3; have gne : g ≠ W1.heap.size := by omega
           first | (have z := (Z.out _ u1).facts; obtain ⟨z0, z1, f0, f1⟩ := z) | skip))
    · have b1 := belowA (Below.refl w1.heap.size w1) (.cells #[.int .u32 ad, .bool true] 31)
      have uu : Upd W1 g w1 := (Upd.refl W1 g).drew.trans u1
      go_wp2_with fail
      go_meet
      exact ⟨_, rfl, ⟨Blk.new _ _ _, k1.lt⟩, k1.upd b1, OW.out.upd (uu.below b1), uu.below b1, Nat.lt_of_lt_of_le hBW u1.size⟩
    · have uu : Upd W1 g w1 := (Upd.ofBelow (belowD (belowA (Below.refl W1.heap.size W1) (.cells #[.int .u32 0, .bool false] 31))) g).trans u1
      have UU := uu.put2 (B := W1.heap.size) (Nat.le_refl _) (.int .u32 ad) (.bool true)
      have zb := ((Z.out _ u1).b.set_ 0 (.int .u32 ad)).set_ 1 (.bool true)
      go_wp2_with fail
      go_meet
      exact ⟨_, rfl, ⟨zb, lg1⟩, k1.put2 lg1 _ _, OW.out.upd UU, UU, hBW⟩
  case rest =>
    obtain ⟨G5, rfl, o5, in5, ob5, u5, gl⟩ := hcut
    have O5 := Lib.hid o5
    have I5 := Lib.hid in5
    have OB := Lib.hid ob5
    have U5 := Lib.hid (U0.out.trans u5)
    have CM1 := Lib.hid (keepU u5 CM.out hBg)
    have gG : g < G5 := o5.gt
    clear o5 in5 ob5 u5 Z CM H1 OW U0 c3 lg1 k0
    go_wp2_with fail
    refine (idle_m g s1 _ I5.out).mono ?_
    rintro e w2 ⟨rfl, k2, u2⟩
    have o2 := O5.out.upd u2
    have ob2 := OB.out.upd u2
    have cm2 := keepU u2 CM1.out hBg
    have U2 := Lib.hid (U5.out.trans u2)
    have K2 := Lib.hid k2
    have O2 := Lib.hid o2
    have OB2 := Lib.hid ob2
    obtain ⟨y0', y1', yf0, yf1⟩ := o2.facts
    clear o2 k2 u2 O5 I5 OB U5 CM1
    by_cases em : m = 21
    · have hm : mStack m s = ((ad, true), mIdle s1) := by
        simp only [mStack, HQ.out, HAD.out]; rw [if_pos em]
      have HM := Lib.hid hm
      have t : (m == 21) = true := by simpa using em
      obtain ⟨z0, z1, f0, f1⟩ := ob2.facts
      clear hm em ob2
      go_wp2_with fail
      refine bodyPost_ret (v := placeV ad true) (by simp [results, Try.results31, go_sem, z0, z1]) rfl ?_
      rw [HM.out]
      exact ⟨rfl, K2.out.put2 hgB _ _, U2.out.put2 hwB _ _⟩
    · have t : (m == 21) = false := by simpa using em
      obtain ⟨lo0, lo1⟩ := mRead_rng K2.out ad
      obtain ⟨⟨lo, s3⟩, hl⟩ : ∃ q, mRead ad (mIdle s1) = q := ⟨_, rfl⟩
      have r3 : s3.r = s1.r := by
        have := congrArg (fun q => q.2.r) hl
        exact this.symm
      rw [hl] at lo0 lo1
      simp only at lo0 lo1
      obtain ⟨⟨hi, s4⟩, hh⟩ : ∃ q, mRead (nextOf ad true) s3 = q := ⟨_, rfl⟩
      have r4 : s4.r = s1.r := by
        have := congrArg (fun q => q.2.r) hh
        exact this.symm.trans r3
      obtain ⟨n0, n1⟩ := nextOf_rng ad true
      obtain ⟨q1, q2, q3, q4, q5, q6, q7, q8, q9⟩ := HR.out
      have hm : mStack m s = (((bankOf s4.r (lo + hi * 256) + s.r.y) % 16777216, false), mIdle s4) := by
        simp only [mStack, HQ.out, HAD.out, hl, hh]; rw [if_neg em]
        simp only [bankOf, r4, q6]
      have HM := Lib.hid hm
      have b_0 : 0 ≤ bankOf s4.r (lo + hi * 256) := by simp only [bankOf, r4, q6]; omega
      have b_1 : bankOf s4.r (lo + hi * 256) ≤ 16777215 := by simp only [bankOf, r4, q6]; omega
      have yy : s4.r.y = s.r.y := by rw [r4, q3]
      have HL := Lib.hid hl
      have HH := Lib.hid hh
      have YY := Lib.hid yy
      clear hm em hl hh r3 r4 q1 q2 q3 q4 q5 q6 q7 q8 q9 ob2 yy
      have hfld : ∀ (a : Int) (b : Bool) (w : World), (Instr.field 31 (.agg #[.int .u32 a, .bool b]) 0).run Try.prog w = .ok (.int .u32 a) w := fun _ _ _ => by kernel_rfl
      have ew4 : IntKind.u32.wrap lo = lo := by rw [IntKind.wrap_u32]; omega
      go_wp2_with fail
      refine (read_m ad g (mIdle s1) _ K2.out ad1 (by omega)).mono ?_
      rw [HL.out]
      rintro e w3 ⟨rfl, k3, u3⟩
      obtain ⟨hi0, hi1⟩ := mRead_rng k3 (nextOf ad true)
      rw [HH.out] at hi0 hi1
      simp only at hi0 hi1
      have o3 := O2.out.upd u3
      have ob3 := OB2.out.upd u3
      obtain ⟨y0', y1', yf0, yf1⟩ := o3.facts
      have e8 := or_high 8 (by omega) lo (hi * 256) (by omega) (by omega) (by omega) lo0 (by omega)
      have U3 := Lib.hid (U2.out.trans u3)
      have K3 := Lib.hid k3
      have OB3 := Lib.hid ob3
      clear o3 ob3 u3 k3 O2 OB2 U2 K2
      have wd3 : IntKind.u32.wrap hi = hi := by rw [IntKind.wrap_u32]; omega
      have wd4 : IntKind.u32.wrap (hi * 256) = hi * 256 := by rw [IntKind.wrap_u32]; omega
      go_wp2_with fail
      refine (wnext ad true _ ad1 (by omega)).mono ?_
      rintro e w4 ⟨rfl, hb4⟩
      have U4 := Lib.hid (U3.out.below hb4)
      have K4 := Lib.hid (K3.out.upd hb4)
      have OB4 := Lib.hid (OB3.out.upd (Upd.ofBelow hb4 g))
      clear hb4 U3 K3 OB3
      go_wp2_with fail
      refine (read_m (nextOf ad true) g s3 _ K4.out n0 (by omega)).mono ?_
      rw [HH.out]
      rintro e w5 ⟨rfl, k5, u5⟩
      have U5 := Lib.hid (U4.out.trans u5)
      have K5 := Lib.hid k5
      have OB5 := Lib.hid (OB4.out.upd u5)
      clear u5 k5 U4 K4 OB4
      go_wp2_with fail
      refine (idle_m g s4 _ K5.out).mono ?_
      rintro e w6 ⟨rfl, k6, u6⟩
      have U6 := Lib.hid (U5.out.trans u6)
      have ob6 := OB5.out.upd u6
      obtain ⟨z0, z1, f0, f1⟩ := ob6.facts
      obtain ⟨_, _, c2, _⟩ := k6.regs
      rw [show (mIdle s4).r.y = s.r.y from YY.out] at c2
      have K6 := Lib.hid k6
      have OB6 := Lib.hid ob6
      clear u6 k6 U5 K5 OB5 ob6 z0 z1 f0 f1
      obtain ⟨n, hn⟩ : ∃ n, lo + hi * 256 = n := ⟨_, rfl⟩
      rw [hn] at b_0 b_1
      have HN := Lib.hid hn
      have n_0 : 0 ≤ n := by omega
      have n_1 : n ≤ 4294967295 := by omega
      obtain ⟨bk, hbk⟩ : ∃ b, bankOf s4.r n = b := ⟨_, rfl⟩
      rw [hbk] at b_0 b_1
      have HBK := Lib.hid hbk
      have ewy : IntKind.u32.wrap s.r.y = s.r.y := by rw [IntKind.wrap_u32]; omega
      have ewz : IntKind.u32.wrap (bk + s.r.y) = bk + s.r.y := by rw [IntKind.wrap_u32]; omega
      have ewa := and24_32 (bk + s.r.y) (by omega) (by omega)
      clear hbk hn
      have hgn : g ≠ B + 1 := by omega
      have d2 : w6.drew.cell? ⟨g, 2, none⟩ = some (.int .u16 s.r.y) := c2
      clear c2
      go_wp2_with fail
      clear d2
      obtain ⟨wd, hwd⟩ : ∃ v, v = w6.drew := ⟨_, rfl⟩
      have k7 : In wd g (mIdle s4) := by rw [hwd]; exact K6.out.upd (belowD (Below.refl _ _))
      have K7 := Lib.hid k7
      have U7 := Lib.hid (show Upd w g wd by rw [hwd]; exact U6.out.drew)
      have OB7 : Own wd g (B + 1) 0 false := by rw [hwd]; exact ⟨OB6.out.b, hgB⟩
      obtain ⟨z0, z1, f0, f1⟩ := OB7.facts
      obtain ⟨_, _, c2, _⟩ := k7.regs
      rw [show (mIdle s4).r.y = s.r.y from YY.out] at c2
      have CB := (bank_m n g (mIdle s4) wd k7 n_0 n_1)
      rw [show bankOf (mIdle s4).r n = bk from HBK.out] at CB
      have hr : (mIdle s4) = (mStack m s).2 := by rw [HM.out]
      have hv : placeV ((bk + s.r.y) % 16777216) false = placeV (mStack m s).1.1 (mStack m s).1.2 := by rw [HM.out, HN.out, HBK.out]
      have CB2 : Calls Try.prog 23 #[.pointer (some ⟨g, 0, none⟩), .int .u32 n] wd fun e w' => e = .returned (.int .u32 bk) ∧ w' = wd := CB.mono (by rintro e w' ⟨⟨rfl, rfl⟩, _, _⟩; exact ⟨rfl, rfl⟩)
      rw [← HN.out] at CB2
      clear k7 CB OB7 K6 U6 OB6 hr hv
      refine wp_region_still_tail 12 (by kernel_rfl) (by kernel_rfl) ?_
      change wpStill _ _ (World.drew _) (fun a' => wpList _ _ _ _ a' (World.drew _)) _ _
      rw [← hwd]
      clear hwd
      simp only [List.take_succ_cons, List.take_zero, List.drop_succ_cons, List.drop_zero]
      repeat still_step
      still_call CB2
      repeat still_step
      refine wpStill_nil ?_
      go_wp2_with fail
      refine bodyPost_ret (v := placeV ((bk + s.r.y) % 16777216) false) (by simp [results, Try.results31, go_sem, z0, z1]) rfl ?_
      rw [HM.out, HN.out, HBK.out]
      exact ⟨rfl, K7.out.put2 hgB _ _, U7.out.put2 hwB _ _⟩
end Go.Proofs.Ytmejjejafimhfaa
