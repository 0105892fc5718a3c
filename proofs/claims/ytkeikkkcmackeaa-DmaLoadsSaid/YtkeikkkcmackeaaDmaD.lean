/- The channels: a byte is moved. -/
import Derived.Test.YtkeikkkcmackeaaDmaC
import Derived.Deep.CutBlock
namespace Go.Proofs.Ytkeikkkcmackeaa
open Go.RowKit
set_option linter.unusedVariables false
set_option linter.unusedSimpArgs false
set_option maxRecDepth 100000

def mvA (o : Nat) (f : Nat → Int) : Nat → Int := if f o / 8 % 4 = 0 then put2 f (o + 2) ((wordOf f (o + 2) + 1) % 65536) else if f o / 8 % 4 = 2 then put2 f (o + 2) ((wordOf f (o + 2) - 1) % 65536) else f
def mvB (o : Nat) (f : Nat → Int) : Nat → Int := put2 f (o + 5) ((wordOf f (o + 5) - 1) % 65536)
def mvC (f : Nat → Int) : Nat → Int := put1 f 97 ((f 97 + 1) % 4)
def mvD (c : Nat) (f : Nat → Int) : Nat → Int := if wordOf f (c * 12 + 5) = 0 then put1 (put1 f 96 (bits .andNot .u8 (f 96) (bitOf c))) 97 0 else f
def doneM (c : Nat) (f : Nat → Int) : Nat → Int := mvD c (mvC (mvB (c * 12) (mvA (c * 12) f)))
theorem mvA_rng {o : Nat} {f : Nat → Int} (R : Rng f) : Rng (mvA o f) := by
  unfold mvA
  have := wordOf_rng R (o + 2)
  split
  · exact R.put2 _ (by omega) (by omega)
  · split
    · exact R.put2 _ (by omega) (by omega)
    · exact R
theorem mvB_rng {o : Nat} {f : Nat → Int} (R : Rng f) : Rng (mvB o f) := by
  unfold mvB
  have := wordOf_rng R (o + 5)
  exact R.put2 _ (by omega) (by omega)
theorem mvC_rng {f : Nat → Int} (R : Rng f) : Rng (mvC f) := R.put1 _ (by omega) (by omega)

section
variable {w : World} {g : Nat} {f : Nat → Int}
set_option maxHeartbeats 2000000 in
theorem moveDone_any (A : Da w g f) (R : Rng f) (c : Nat) (hc : c < 8) (ho : First (f 96) c) :
    Calls Try.prog 40 #[.pointer (some ⟨g, 0, none⟩)] w (Wrote w g (doneM c f) (.tuple #[])) := by
  have c96 := A.cell (j := 96) (by omega)
  have LE := Lib.hid (fun (w' : World) (A' : Da w' g f) => least_any A' c hc (f 96) ho)
  have hlt := A.lt
  obtain ⟨o, ho'⟩ : ∃ m, f 96 = m := ⟨_, rfl⟩
  rw [ho'] at LE c96
  have HA := Lib.hid A
  have HR := Lib.hid R
  have HO := Lib.hid ho'
  have HF := Lib.hid ho
  clear A R ho ho'
  go_enter Try.func40, Try.ntmps40
  go_wp2_with fail
  refine (LE.out _ HA.out).mono ?_
  rintro e w1 ⟨rfl, hb1⟩
  have A1 := HA.out.kept hb1
  have HA1 := Lib.hid A1
  have HB1 := Lib.hid hb1
  have cm := A1.cell (j := c * 12) (by omega)
  obtain ⟨m0, m1⟩ := HR.out (c * 12)
  have e3 := and3 (f (c * 12) / 8) (by omega) (by omega)
  obtain ⟨km, hkm⟩ : ∃ km, f (c * 12) / 8 % 4 = km := ⟨_, rfl⟩
  rw [hkm] at e3
  clear A1 hb1 LE c96 HA
  go_upto_block 0 with (fail)
  go_cut [] from 21 to 31 (fun wx => Da wx g (mvA (c * 12) f) ∧ Upd w1 g wx)
  case first =>
    have wr := wordOf_rng HR.out (c * 12 + 2)
    by_cases k0 : f (c * 12) / 8 % 4 = 0
    · have NX := Lib.hid (next_any HA1.out HR.out 2 (by omega) (o := c * 12) (by omega))
      have hv : mvA (c * 12) f = put2 f (c * 12 + 2) ((wordOf f (c * 12 + 2) + 1) % 65536) := by unfold mvA; rw [if_pos k0]
      have HV := Lib.hid hv
      rw [hkm] at k0
      subst k0
      clear hv hkm
      go_wp2_with fail
      refine NX.out.mono ?_
      rintro e w2 ⟨rfl, ha2, hu2⟩
      go_wp2_with fail
      go_meet
      rw [HV.out]
      exact ⟨ha2, hu2⟩
    by_cases k2 : f (c * 12) / 8 % 4 = 2
    · have WD := Lib.hid (word_any HA1.out HR.out 2 (by omega) (o := c * 12) (by omega))
      have SE := Lib.hid (fun (w' : World) (A' : Da w' g f) => set_any A' (o := c * 12) 2 (by omega) (by omega) ((wordOf f (c * 12 + 2) - 1) % 65536) (by omega) (by omega))
      have hv : mvA (c * 12) f = put2 f (c * 12 + 2) ((wordOf f (c * 12 + 2) - 1) % 65536) := by unfold mvA; rw [if_neg k0, if_pos k2]
      have HV := Lib.hid hv
      obtain ⟨z, hz⟩ : ∃ z, wordOf f (c * 12 + 2) = z := ⟨_, rfl⟩
      rw [hz] at WD SE HV wr
      rw [hkm] at k2
      subst k2
      have ew : IntKind.u16.wrap (z - 1) = (z - 1) % 65536 := by rw [IntKind.wrap_u16]
      clear hv k0 hkm hz
      go_wp2_with fail
      refine WD.out.mono ?_
      rintro e w2 ⟨rfl, hb2⟩
      have SE2 := Lib.hid (SE.out w2 (HA1.out.kept hb2))
      have U2 := Lib.hid (Upd.ofBelow hb2 g)
      clear hb2
      go_wp2_with fail
      refine SE2.out.mono ?_
      rintro e w3 ⟨rfl, ha3, hu3⟩
      go_wp2_with fail
      go_meet
      rw [HV.out]
      exact ⟨ha3, U2.out.trans hu3⟩
    · have hv : mvA (c * 12) f = f := by unfold mvA; rw [if_neg k0, if_neg k2]
      have HV := Lib.hid hv
      rw [hkm] at k0 k2
      have t0 : (km == 0) = false := by simpa using k0
      have t2 : (km == 2) = false := by simpa using k2
      clear hv
      go_wp2_with fail
      go_meet
      rw [HV.out]
      exact ⟨HA1.out, Upd.refl _ _⟩
  case rest =>
    obtain ⟨ha, hu⟩ := hcut
    have RA : Rng (mvA (c * 12) f) := mvA_rng HR.out
    have wr := wordOf_rng RA (c * 12 + 5)
    have H7 : (mvA (c * 12) f) 97 = f 97 := by
      unfold mvA put2 put1
      split
      · simp only []; rw [if_neg (by omega), if_neg (by omega)]
      · split
        · simp only []; rw [if_neg (by omega), if_neg (by omega)]
        · rfl
    have H6 : (mvA (c * 12) f) 96 = f 96 := by
      unfold mvA put2 put1
      split
      · simp only []; rw [if_neg (by omega), if_neg (by omega)]
      · split
        · simp only []; rw [if_neg (by omega), if_neg (by omega)]
        · rfl
    obtain ⟨fa, hfa⟩ : ∃ fa, mvA (c * 12) f = fa := ⟨_, rfl⟩
    rw [hfa] at ha RA wr H7 H6
    have HFA := Lib.hid hfa
    have U1 := Lib.hid ((Upd.ofBelow HB1.out g).trans hu)
    have WD := Lib.hid (word_any ha RA 5 (by omega) (o := c * 12) (by omega))
    have SE := Lib.hid (fun (w' : World) (A' : Da w' g fa) => set_any A' (o := c * 12) 5 (by omega) (by omega) ((wordOf fa (c * 12 + 5) - 1) % 65536) (by omega) (by omega))
    have HAA := Lib.hid ha
    have HRA := Lib.hid RA
    have HB' : Hid (mvB (c * 12) fa = put2 fa (c * 12 + 5) ((wordOf fa (c * 12 + 5) - 1) % 65536)) := rfl
    obtain ⟨z, hz⟩ : ∃ z, wordOf fa (c * 12 + 5) = z := ⟨_, rfl⟩
    rw [hz] at WD SE HB' wr
    have ew : IntKind.u16.wrap (z - 1) = (z - 1) % 65536 := by rw [IntKind.wrap_u16]
    clear ha hu hfa RA HA1 cm m0 m1 e3 hz HB1 hkm
    go_wp2_with fail
    refine WD.out.mono ?_
    rintro e w2 ⟨rfl, hb2⟩
    have SE2 := Lib.hid (SE.out w2 (HAA.out.kept hb2))
    have U2 := Lib.hid (U1.out.trans (Upd.ofBelow hb2 g))
    clear hb2 WD SE HAA U1
    go_wp2_with fail
    refine SE2.out.mono ?_
    rintro e w3 ⟨rfl, ha3, hu3⟩
    have hbe := HB'.out
    rw [← hbe] at ha3
    have RB : Rng (mvB (c * 12) fa) := mvB_rng HRA.out
    have H7' : (mvB (c * 12) fa) 97 = f 97 := by rw [← H7, hbe]; unfold put2 put1; rw [if_neg (by omega), if_neg (by omega)]
    have H6' : (mvB (c * 12) fa) 96 = f 96 := by rw [← H6, hbe]; unfold put2 put1; rw [if_neg (by omega), if_neg (by omega)]
    obtain ⟨fb, hfb⟩ : ∃ fb, mvB (c * 12) fa = fb := ⟨_, rfl⟩
    rw [hfb] at ha3 RB H7' H6'
    have HFB := Lib.hid hfb
    have U3 := Lib.hid (U2.out.trans hu3)
    have HA3 := Lib.hid ha3
    have c7 := ha3.cell (j := 97) (by omega)
    have f7 := ha3.frozen 97
    have r7 := RB 97
    obtain ⟨n, hn⟩ : ∃ n, fb 97 = n := ⟨_, rfl⟩
    have hc' : mvC fb = put1 fb 97 ((n + 1) % 4) := by unfold mvC; rw [hn]
    rw [hn] at c7 r7
    obtain ⟨n0, n1⟩ := r7
    have HC := Lib.hid hc'
    have ewn : IntKind.u8.wrap (n + 1) = (n + 1) % 256 := by rw [IntKind.wrap_u8]
    have a4 := ha3.put1 (i := 97) (by omega) ((n + 1) % 4)
    rw [← hc'] at a4
    have RC : Rng (mvC fb) := mvC_rng RB
    have H6c : (mvC fb) 96 = f 96 := by rw [← H6', hc']; unfold put1; rw [if_neg (by decide)]
    obtain ⟨fc, hfc⟩ : ∃ fc, mvC fb = fc := ⟨_, rfl⟩
    rw [hfc] at a4 RC H6c
    have HFC := Lib.hid hfc
    have wr2 := wordOf_rng RC (c * 12 + 5)
    have WD2 := Lib.hid (word_any a4 RC 5 (by omega) (o := c * 12) (by omega))
    obtain ⟨v, hv⟩ : ∃ z, wordOf fc (c * 12 + 5) = z := ⟨_, rfl⟩
    rw [hv] at WD2 wr2
    have HVV := Lib.hid hv
    have A4 := Lib.hid a4
    have H6H := Lib.hid H6c
    clear ha3 hu3 hbe RB H7' H6' hfb hn hc' HB' U2 a4 RC hfc hv H7 H6 H6c HRA
    have HFIN : Hid (doneM c f = mvD c fc) := by
      unfold doneM
      rw [HFA.out, HFB.out, HFC.out]
      rfl
    clear HFA HFB HFC
    have c6 := A4.out.cell (j := 96) (by omega)
    have c7 := A4.out.cell (j := 97) (by omega)
    have f6 := A4.out.frozen 96
    have f7' := A4.out.frozen 97
    rw [H6H.out, HO.out] at c6
    clear c6 c7 f6 f7'
    go_wp2_with fail
    refine WD2.out.mono ?_
    rintro e w5 ⟨rfl, hb5⟩
    have A5 := A4.out.kept hb5
    have c6 := A5.cell (j := 96) (by omega)
    have c7 := A5.cell (j := 97) (by omega)
    have f6 := A5.frozen 96
    have f7' := A5.frozen 97
    rw [H6H.out, HO.out] at c6
    have HA5 := Lib.hid A5
    have U5 := Lib.hid ((U3.out.set 97 (.int .u8 ((n + 1) % 4))).trans (Upd.ofBelow hb5 g))
    clear A5 hb5 WD2
    by_cases hv0 : v = 0
    · subst hv0
      have hd : mvD c fc = put1 (put1 fc 96 (bits .andNot .u8 o (bitOf c))) 97 0 := by unfold mvD; rw [if_pos HVV.out, H6H.out, HO.out]
      have HD := Lib.hid (HFIN.out.trans hd)
      obtain ⟨q, hq⟩ : ∃ q, bits .andNot .u8 o (bitOf c) = q := ⟨_, rfl⟩
      rw [hq] at HD
      clear hd HFIN
      go_wp2_with fail
      go_end0
      rw [HD.out]
      exact ⟨rfl, by have := (HA5.out.put1 (i := 96) (by omega) q).put1 (i := 97) (by omega) 0; rw [← hq] at this ⊢; exact this, by rw [← hq]; exact (U5.out.set _ _).set _ _⟩
    · have hd : mvD c fc = fc := by unfold mvD; rw [if_neg (by rw [HVV.out]; exact hv0)]
      have HD := Lib.hid (HFIN.out.trans hd)
      have t : (v == 0) = false := by simpa using hv0
      clear hd HFIN c6 c7
      go_wp2_with fail
      go_end0
      rw [HD.out]
      exact ⟨rfl, HA5.out, U5.out⟩
end
end Go.Proofs.Ytkeikkkcmackeaa
