/- The channels: a byte is moved. A whole move, in plain words. No program. Done while nothing is under way with tables; the statements' own small functions; awake. Writes; how a move begins; awake. -/
import Derived.Test.YtkeikkkcmackeaaDmaC
import Derived.Deep.CutBlock
namespace Go.Proofs.Ytkeikkkcmackeaa
open Go.RowKit
set_option linter.unusedVariables false
set_option linter.unusedSimpArgs false
set_option maxRecDepth 100000

def mvA (o : Nat) (f : Nat → Int) : Nat → Int := if f o / 8 % 4 = 0 then put2 f (o + 2) ((wordOf f (o + 2) + 1) % 65536) else if f o / 8 % 4 = 2 then put2 f (o + 2) ((wordOf f (o + 2) - 1) % 65536) else f
def mvB (o : Nat) (f : Nat → Int) : Nat → Int := put2 f (o + 5) ((wordOf f (o + 5) - 1) % 65536)
def mvC (f : Nat → Int) : Nat → Int := put1 f 97 ((f 97 + 1) % 4)
def mvD (c : Nat) (f : Nat → Int) : Nat → Int := if wordOf f (c * 12 + 5) = 0 then put1 (put1 f 96 (bits .andNot .u8 (f 96) (bitOf c))) 97 0 else f
def doneM (c : Nat) (f : Nat → Int) : Nat → Int := mvD c (mvC (mvB (c * 12) (mvA (c * 12) f)))
theorem mvA_rng {o : Nat} {f : Nat → Int} (R : Rng f) : Rng (mvA o f) := by
  unfold mvA
  have := wordOf_rng R (o + 2)
  split
  · exact R.put2 _ (by omega) (by omega)
  · split
    · exact R.put2 _ (by omega) (by omega)
    · exact R
theorem mvB_rng {o : Nat} {f : Nat → Int} (R : Rng f) : Rng (mvB o f) := by
  unfold mvB
  have := wordOf_rng R (o + 5)
  exact R.put2 _ (by omega) (by omega)
theorem mvC_rng {f : Nat → Int} (R : Rng f) : Rng (mvC f) := R.put1 _ (by omega) (by omega)

section
variable {w : World} {g : Nat} {f : Nat → Int}
set_option maxHeartbeats 2000000 in
theorem moveDone_any (A : Da w g f) (R : Rng f) (c : Nat) (hc : c < 8) (ho : First (f 96) c) :
    Calls Try.prog 40 #[.pointer (some ⟨g, 0, none⟩)] w (Wrote w g (doneM c f) (.tuple #[])) := by
  have c96 := A.cell (j := 96) (by omega)
  have LE := Lib.hid (fun (w' : World) (A' : Da w' g f) => least_any A' c hc (f 96) ho)
  have hlt := A.lt
  obtain ⟨o, ho'⟩ : ∃ m, f 96 = m := ⟨_, rfl⟩
  rw [ho'] at LE c96
  have HA := Lib.hid A
  have HR := Lib.hid R
  have HO := Lib.hid ho'
  have HF := Lib.hid ho
  clear A R ho ho'
  go_enter Try.func40, Try.ntmps40
  go_wp2_with fail
  refine (LE.out _ HA.out).mono ?_
  rintro e w1 ⟨rfl, hb1⟩
  have A1 := HA.out.kept hb1
  have HA1 := Lib.hid A1
  have HB1 := Lib.hid hb1
  have cm := A1.cell (j := c * 12) (by omega)
  obtain ⟨m0, m1⟩ := HR.out (c * 12)
  have e3 := and3 (f (c * 12) / 8) (by omega) (by omega)
  obtain ⟨km, hkm⟩ : ∃ km, f (c * 12) / 8 % 4 = km := ⟨_, rfl⟩
  rw [hkm] at e3
  clear A1 hb1 LE c96 HA
  go_upto_block 0 with (fail)
  go_cut [] from 21 to 31 (fun wx => Da wx g (mvA (c * 12) f) ∧ Upd w1 g wx)
  case first =>
    have wr := wordOf_rng HR.out (c * 12 + 2)
    by_cases k0 : f (c * 12) / 8 % 4 = 0
    · have NX := Lib.hid (next_any HA1.out HR.out 2 (by omega) (o := c * 12) (by omega))
      have hv : mvA (c * 12) f = put2 f (c * 12 + 2) ((wordOf f (c * 12 + 2) + 1) % 65536) := by unfold mvA; rw [if_pos k0]
      have HV := Lib.hid hv
      rw [hkm] at k0
      subst k0
      clear hv hkm
      go_wp2_with fail
      refine NX.out.mono ?_
      rintro e w2 ⟨rfl, ha2, hu2⟩
      go_wp2_with fail
      go_meet
      rw [HV.out]
      exact ⟨ha2, hu2⟩
    by_cases k2 : f (c * 12) / 8 % 4 = 2
    · have WD := Lib.hid (word_any HA1.out HR.out 2 (by omega) (o := c * 12) (by omega))
      have SE := Lib.hid (fun (w' : World) (A' : Da w' g f) => set_any A' (o := c * 12) 2 (by omega) (by omega) ((wordOf f (c * 12 + 2) - 1) % 65536) (by omega) (by omega))
      have hv : mvA (c * 12) f = put2 f (c * 12 + 2) ((wordOf f (c * 12 + 2) - 1) % 65536) := by unfold mvA; rw [if_neg k0, if_pos k2]
      have HV := Lib.hid hv
      obtain ⟨z, hz⟩ : ∃ z, wordOf f (c * 12 + 2) = z := ⟨_, rfl⟩
      rw [hz] at WD SE HV wr
      rw [hkm] at k2
      subst k2
      have ew : IntKind.u16.wrap (z - 1) = (z - 1) % 65536 := by rw [IntKind.wrap_u16]
      clear hv k0 hkm hz
      go_wp2_with fail
      refine WD.out.mono ?_
      rintro e w2 ⟨rfl, hb2⟩
      have SE2 := Lib.hid (SE.out w2 (HA1.out.kept hb2))
      have U2 := Lib.hid (Upd.ofBelow hb2 g)
      clear hb2
      go_wp2_with fail
      refine SE2.out.mono ?_
      rintro e w3 ⟨rfl, ha3, hu3⟩
      go_wp2_with fail
      go_meet
      rw [HV.out]
      exact ⟨ha3, U2.out.trans hu3⟩
    · have hv : mvA (c * 12) f = f := by unfold mvA; rw [if_neg k0, if_neg k2]
      have HV := Lib.hid hv
      rw [hkm] at k0 k2
      have t0 : (km == 0) = false := by simpa using k0
      have t2 : (km == 2) = false := by simpa using k2
      clear hv
      go_wp2_with fail
      go_meet
      rw [HV.out]
      exact ⟨HA1.out, Upd.refl _ _⟩
  case rest =>
    obtain ⟨ha, hu⟩ := hcut
    have RA : Rng (mvA (c * 12) f) := mvA_rng HR.out
    have wr := wordOf_rng RA (c * 12 + 5)
    have H7 : (mvA (c * 12) f) 97 = f 97 := by
      unfold mvA put2 put1
      split
      · simp only []; rw [if_neg (by omega), if_neg (by omega)]
      · split
        · simp only []; rw [if_neg (by omega), if_neg (by omega)]
        · rfl
    have H6 : (mvA (c * 12) f) 96 = f 96 := by
      unfold mvA put2 put1
      split
      · simp only []; rw [if_neg (by omega), if_neg (by omega)]
      · split
        · simp only []; rw [if_neg (by omega), if_neg (by omega)]
        · rfl
    obtain ⟨fa, hfa⟩ : ∃ fa, mvA (c * 12) f = fa := ⟨_, rfl⟩
    rw [hfa] at ha RA wr H7 H6
    have HFA := Lib.hid hfa
    have U1 := Lib.hid ((Upd.ofBelow HB1.out g).trans hu)
    have WD := Lib.hid (word_any ha RA 5 (by omega) (o := c * 12) (by omega))
    have SE := Lib.hid (fun (w' : World) (A' : Da w' g fa) => set_any A' (o := c * 12) 5 (by omega) (by omega) ((wordOf fa (c * 12 + 5) - 1) % 65536) (by omega) (by omega))
    have HAA := Lib.hid ha
    have HRA := Lib.hid RA
    have HB' : Hid (mvB (c * 12) fa = put2 fa (c * 12 + 5) ((wordOf fa (c * 12 + 5) - 1) % 65536)) := rfl
    obtain ⟨z, hz⟩ : ∃ z, wordOf fa (c * 12 + 5) = z := ⟨_, rfl⟩
    rw [hz] at WD SE HB' wr
    have ew : IntKind.u16.wrap (z - 1) = (z - 1) % 65536 := by rw [IntKind.wrap_u16]
    clear ha hu hfa RA HA1 cm m0 m1 e3 hz HB1 hkm
    go_wp2_with fail
    refine WD.out.mono ?_
    rintro e w2 ⟨rfl, hb2⟩
    have SE2 := Lib.hid (SE.out w2 (HAA.out.kept hb2))
    have U2 := Lib.hid (U1.out.trans (Upd.ofBelow hb2 g))
    clear hb2 WD SE HAA U1
    go_wp2_with fail
    refine SE2.out.mono ?_
    rintro e w3 ⟨rfl, ha3, hu3⟩
    have hbe := HB'.out
    rw [← hbe] at ha3
    have RB : Rng (mvB (c * 12) fa) := mvB_rng HRA.out
    have H7' : (mvB (c * 12) fa) 97 = f 97 := by rw [← H7, hbe]; unfold put2 put1; rw [if_neg (by omega), if_neg (by omega)]
    have H6' : (mvB (c * 12) fa) 96 = f 96 := by rw [← H6, hbe]; unfold put2 put1; rw [if_neg (by omega), if_neg (by omega)]
    obtain ⟨fb, hfb⟩ : ∃ fb, mvB (c * 12) fa = fb := ⟨_, rfl⟩
    rw [hfb] at ha3 RB H7' H6'
    have HFB := Lib.hid hfb
    have U3 := Lib.hid (U2.out.trans hu3)
    have HA3 := Lib.hid ha3
    have c7 := ha3.cell (j := 97) (by omega)
    have f7 := ha3.frozen 97
    have r7 := RB 97
    obtain ⟨n, hn⟩ : ∃ n, fb 97 = n := ⟨_, rfl⟩
    have hc' : mvC fb = put1 fb 97 ((n + 1) % 4) := by unfold mvC; rw [hn]
    rw [hn] at c7 r7
    obtain ⟨n0, n1⟩ := r7
    have HC := Lib.hid hc'
    have ewn : IntKind.u8.wrap (n + 1) = (n + 1) % 256 := by rw [IntKind.wrap_u8]
    have a4 := ha3.put1 (i := 97) (by omega) ((n + 1) % 4)
    rw [← hc'] at a4
    have RC : Rng (mvC fb) := mvC_rng RB
    have H6c : (mvC fb) 96 = f 96 := by rw [← H6', hc']; unfold put1; rw [if_neg (by decide)]
    obtain ⟨fc, hfc⟩ : ∃ fc, mvC fb = fc := ⟨_, rfl⟩
    rw [hfc] at a4 RC H6c
    have HFC := Lib.hid hfc
    have wr2 := wordOf_rng RC (c * 12 + 5)
    have WD2 := Lib.hid (word_any a4 RC 5 (by omega) (o := c * 12) (by omega))
    obtain ⟨v, hv⟩ : ∃ z, wordOf fc (c * 12 + 5) = z := ⟨_, rfl⟩
    rw [hv] at WD2 wr2
    have HVV := Lib.hid hv
    have A4 := Lib.hid a4
    have H6H := Lib.hid H6c
    clear ha3 hu3 hbe RB H7' H6' hfb hn hc' HB' U2 a4 RC hfc hv H7 H6 H6c HRA
    have HFIN : Hid (doneM c f = mvD c fc) := by
      unfold doneM
      rw [HFA.out, HFB.out, HFC.out]
      rfl
    clear HFA HFB HFC
    have c6 := A4.out.cell (j := 96) (by omega)
    have c7 := A4.out.cell (j := 97) (by omega)
    have f6 := A4.out.frozen 96
    have f7' := A4.out.frozen 97
    rw [H6H.out, HO.out] at c6
    clear c6 c7 f6 f7'
    go_wp2_with fail
    refine WD2.out.mono ?_
    rintro e w5 ⟨rfl, hb5⟩
    have A5 := A4.out.kept hb5
    have c6 := A5.cell (j := 96) (by omega)
    have c7 := A5.cell (j := 97) (by omega)
    have f6 := A5.frozen 96
    have f7' := A5.frozen 97
    rw [H6H.out, HO.out] at c6
    have HA5 := Lib.hid A5
    have U5 := Lib.hid ((U3.out.set 97 (.int .u8 ((n + 1) % 4))).trans (Upd.ofBelow hb5 g))
    clear A5 hb5 WD2
    by_cases hv0 : v = 0
    · subst hv0
      have hd : mvD c fc = put1 (put1 fc 96 (bits .andNot .u8 o (bitOf c))) 97 0 := by unfold mvD; rw [if_pos HVV.out, H6H.out, HO.out]
      have HD := Lib.hid (HFIN.out.trans hd)
      obtain ⟨q, hq⟩ : ∃ q, bits .andNot .u8 o (bitOf c) = q := ⟨_, rfl⟩
      rw [hq] at HD
      clear hd HFIN
      go_wp2_with fail
      go_end0
      rw [HD.out]
      exact ⟨rfl, by have := (HA5.out.put1 (i := 96) (by omega) q).put1 (i := 97) (by omega) 0; rw [← hq] at this ⊢; exact this, by rw [← hq]; exact (U5.out.set _ _).set _ _⟩
    · have hd : mvD c fc = fc := by unfold mvD; rw [if_neg (by rw [HVV.out]; exact hv0)]
      have HD := Lib.hid (HFIN.out.trans hd)
      have t : (v == 0) = false := by simpa using hv0
      clear hd HFIN c6 c7
      go_wp2_with fail
      go_end0
      rw [HD.out]
      exact ⟨rfl, HA5.out, U5.out⟩
end
end Go.Proofs.Ytkeikkkcmackeaa

namespace Go.Proofs.Ytkeikkkcmackeaa
set_option linter.unusedVariables false
set_option linter.unusedSimpArgs false

def stepAt (m : Int) : Int := if m / 8 % 4 = 0 then 1 else if m / 8 % 4 = 2 then -1 else 0
/-- Channel c has moved k of n bytes. -/
structure Mv (c : Nat) (m tp bank at_ : Int) (n k : Nat) (f : Nat → Int) : Prop where
  r : Rng f
  hm : f (c * 12) = m
  htp : f (c * 12 + 1) = tp
  hbank : f (c * 12 + 4) = bank
  hat : wordOf f (c * 12 + 2) = (at_ + k * stepAt m) % 65536
  count : wordOf f (c * 12 + 5) = ((n : Int) - k) % 65536
  moved : k < n → f 97 = (k : Int) % 4
  moves : f 96 = if k < n then bitOf c else 0
  way : f 101 = 0
theorem put1_at (f : Nat → Int) (i j : Nat) (x : Int) : put1 f i x j = if j = i then x else f j := rfl
theorem put1_ne {f : Nat → Int} {i j : Nat} {x : Int} (h : j ≠ i) : put1 f i x j = f j := if_neg h
theorem put2_ne {f : Nat → Int} {i j : Nat} {x : Int} (h : j ≠ i) (h2 : j ≠ i + 1) : put2 f i x j = f j := by
  unfold put2; rw [put1_ne h2, put1_ne h]
theorem word_put2 {f : Nat → Int} {i : Nat} {x : Int} : wordOf (put2 f i x) i = x := by
  unfold wordOf put2
  rw [put1_ne (show i ≠ i + 1 by omega), put1_at, put1_at, if_pos rfl, if_pos rfl]
  omega
theorem word_ne {f : Nat → Int} {i j : Nat} {x : Int} (h1 : j ≠ i) (h2 : j ≠ i + 1) (h3 : j + 1 ≠ i) : wordOf (put2 f i x) j = wordOf f j := by
  unfold wordOf; rw [put2_ne h1 h2, put2_ne h3 (by omega)]
theorem word_put1 {f : Nat → Int} {i j : Nat} {x : Int} (h1 : j ≠ i) (h3 : j + 1 ≠ i) : wordOf (put1 f i x) j = wordOf f j := by
  unfold wordOf; rw [put1_ne h1, put1_ne h3]
theorem mvA_ne {o j : Nat} {f : Nat → Int} (h : j ≠ o + 2) (h2 : j ≠ o + 3) : mvA o f j = f j := by
  unfold mvA
  split
  · exact put2_ne h h2
  · split
    · exact put2_ne h h2
    · rfl
theorem mvA_word (o : Nat) (f : Nat → Int) (x : Int) (h : wordOf f (o + 2) = x % 65536) : wordOf (mvA o f) (o + 2) = (x + stepAt (f o)) % 65536 := by
  unfold mvA stepAt
  split
  · rw [word_put2, h]; omega
  · split
    · rw [word_put2, h]; omega
    · rw [h]; omega
theorem mvA_word5 (o : Nat) (f : Nat → Int) : wordOf (mvA o f) (o + 5) = wordOf f (o + 5) := by
  unfold wordOf; rw [mvA_ne (by omega) (by omega), mvA_ne (by omega) (by omega)]
theorem bit_rng (c : Nat) (hc : c < 8) : 0 ≤ bitOf c ∧ bitOf c ≤ 255 ∧ First (bitOf c) c ∧ bits .andNot .u8 (bitOf c) (bitOf c) = 0 := by
  have h : ∀ c : Fin 8, 0 ≤ bitOf c.val ∧ bitOf c.val ≤ 255 ∧ (1 ≤ bitOf c.val ∧ bitOf c.val ≤ 255 ∧ Lib.ntz8 (bitOf c.val) = (c.val : Int)) ∧ bits .andNot .u8 (bitOf c.val) (bitOf c.val) = 0 := by decide +kernel
  exact h ⟨c, hc⟩
theorem Mv.step {c : Nat} {m tp bank at_ : Int} {n k : Nat} {f : Nat → Int} (hc : c < 8) (hn : n ≤ 65536) (h : Mv c m tp bank at_ n k f) (hk : k < n) : Mv c m tp bank at_ n (k + 1) (doneM c f) := by
  obtain ⟨r, hm, hto, hb, ha, hcn, hmd, hmv, hw⟩ := h
  have RA : Rng (mvA (c * 12) f) := mvA_rng r
  have RB : Rng (mvB (c * 12) (mvA (c * 12) f)) := mvB_rng RA
  have RC : Rng (mvC (mvB (c * 12) (mvA (c * 12) f))) := mvC_rng RB
  obtain ⟨b0, b1, bf, ba⟩ := bit_rng c hc
  obtain ⟨fa, efa⟩ : ∃ fa, mvA (c * 12) f = fa := ⟨_, rfl⟩
  have neA : ∀ j, j ≠ c * 12 + 2 → j ≠ c * 12 + 3 → fa j = f j := fun j h1 h2 => by rw [← efa]; exact mvA_ne h1 h2
  have wA : wordOf fa (c * 12 + 2) = (at_ + k * stepAt m + stepAt m) % 65536 := by rw [← efa, mvA_word _ _ _ ha, hm]
  have wA5 : wordOf fa (c * 12 + 5) = ((n : Int) - k) % 65536 := by rw [← efa, mvA_word5, hcn]
  rw [efa] at RA RB RC
  have eb : mvB (c * 12) fa = put2 fa (c * 12 + 5) (((n : Int) - k - 1) % 65536) := by unfold mvB; rw [wA5]; congr 1; omega
  obtain ⟨fb, efb⟩ : ∃ fb, mvB (c * 12) fa = fb := ⟨_, rfl⟩
  rw [efb] at RB RC eb
  have neB : ∀ j, j ≠ c * 12 + 5 → j ≠ c * 12 + 6 → fb j = fa j := fun j h1 h2 => by rw [eb]; exact put2_ne h1 h2
  have wB : wordOf fb (c * 12 + 2) = wordOf fa (c * 12 + 2) := by rw [eb]; exact word_ne (by omega) (by omega) (by omega)
  have wB5 : wordOf fb (c * 12 + 5) = ((n : Int) - k - 1) % 65536 := by rw [eb]; exact word_put2
  have e97 : fb 97 = (k : Int) % 4 := by rw [neB 97 (by omega) (by omega), neA 97 (by omega) (by omega)]; exact hmd hk
  have ec : mvC fb = put1 fb 97 (((k : Int) % 4 + 1) % 4) := by unfold mvC; rw [e97]
  obtain ⟨fc, efc⟩ : ∃ fc, mvC fb = fc := ⟨_, rfl⟩
  rw [efc] at RC ec
  have neC : ∀ j, j ≠ 97 → fc j = fb j := fun j h1 => by rw [ec]; exact put1_ne h1
  have wC : wordOf fc (c * 12 + 2) = (at_ + k * stepAt m + stepAt m) % 65536 := by rw [ec, word_put1 (by omega) (by omega), wB, wA]
  have wC5 : wordOf fc (c * 12 + 5) = ((n : Int) - k - 1) % 65536 := by rw [ec, word_put1 (by omega) (by omega), wB5]
  have c97 : fc 97 = ((k : Int) % 4 + 1) % 4 := by rw [ec, put1_at, if_pos rfl]
  have c96 : fc 96 = bitOf c := by rw [neC 96 (by omega), neB 96 (by omega) (by omega), neA 96 (by omega) (by omega), hmv, if_pos hk]
  have same : ∀ j, j ≠ 97 → j ≠ c * 12 + 2 → j ≠ c * 12 + 3 → j ≠ c * 12 + 5 → j ≠ c * 12 + 6 → fc j = f j := fun j h1 h2 h3 h4 h5 => by rw [neC j h1, neB j h4 h5, neA j h2 h3]
  have hsum : at_ + ((k + 1 : Nat) : Int) * stepAt m = at_ + k * stepAt m + stepAt m := by
    rw [Int.natCast_add, Int.add_mul]; simp; omega
  have hd : doneM c f = mvD c fc := by unfold doneM; rw [efa, efb, efc]
  rw [hd]
  unfold mvD
  by_cases hz : wordOf fc (c * 12 + 5) = 0
  · rw [if_pos hz]
    have hkn : k + 1 = n := by rw [wC5] at hz; omega
    refine ⟨(RC.put1 _ (by rw [c96, ba]; omega) (by rw [c96, ba]; omega)).put1 _ (by omega) (by omega), ?_, ?_, ?_, ?_, ?_, fun h => absurd h (by omega), ?_, ?_⟩
    · rw [put1_ne (by omega), put1_ne (by omega), same _ (by omega) (by omega) (by omega) (by omega) (by omega), hm]
    · rw [put1_ne (by omega), put1_ne (by omega), same _ (by omega) (by omega) (by omega) (by omega) (by omega), hto]
    · rw [put1_ne (by omega), put1_ne (by omega), same _ (by omega) (by omega) (by omega) (by omega) (by omega), hb]
    · rw [word_put1 (by omega) (by omega), word_put1 (by omega) (by omega), wC, hsum]
    · rw [word_put1 (by omega) (by omega), word_put1 (by omega) (by omega), wC5]; congr 1; omega
    · rw [put1_ne (by omega), put1_at, if_pos rfl, c96, ba, if_neg (by omega)]
    · rw [put1_ne (by omega), put1_ne (by omega), same _ (by omega) (by omega) (by omega) (by omega) (by omega), hw]
  · rw [if_neg hz]
    have hkn : k + 1 < n := by rw [wC5] at hz; omega
    refine ⟨RC, ?_, ?_, ?_, ?_, ?_, fun h => ?_, ?_, ?_⟩
    · rw [same _ (by omega) (by omega) (by omega) (by omega) (by omega), hm]
    · rw [same _ (by omega) (by omega) (by omega) (by omega) (by omega), hto]
    · rw [same _ (by omega) (by omega) (by omega) (by omega) (by omega), hb]
    · rw [wC, hsum]
    · rw [wC5]; congr 1; omega
    · rw [c97]; omega
    · rw [c96, if_pos hkn]
    · rw [same _ (by omega) (by omega) (by omega) (by omega) (by omega), hw]
/-- The transfer that is next. -/
theorem Mv.next {c : Nat} {m tp bank at_ : Int} {n k : Nat} {f : Nat → Int} (h : Mv c m tp bank at_ n k f) (hk : k < n) :
    trV (kindOf (f (c * 12))) (liesOf f (c * 12 + 4) (c * 12 + 2)) ((f (c * 12 + 1) + patOf (f (c * 12)) (f 97)) % 256) = trV (kindOf m) (bank * 65536 + (at_ + k * stepAt m) % 65536) ((tp + patOf m k) % 256) := by
  have e : patOf m ((k : Int) % 4) = patOf m k := by
    unfold patOf
    have h1 : (k : Int) % 4 % 2 = (k : Int) % 2 := by omega
    have h2 : (k : Int) % 4 / 2 % 2 = (k : Int) / 2 % 2 := by omega
    have h3 : (k : Int) % 4 % 4 = (k : Int) % 4 := by omega
    rw [h1, h2, h3]
  unfold liesOf
  rw [h.hm, h.htp, h.hbank, h.hat, h.moved hk, e]
theorem Mv.over {c : Nat} {m tp bank at_ : Int} {n : Nat} {f : Nat → Int} (h : Mv c m tp bank at_ n n f) : f 96 = 0 ∧ f (c * 12 + 5) = 0 ∧ f (c * 12 + 6) = 0 := by
  have hc := h.count
  have h1 := h.r (c * 12 + 5)
  have h2 := h.r (c * 12 + 6)
  unfold wordOf at hc
  rw [show c * 12 + 5 + 1 = c * 12 + 6 by omega] at hc
  refine ⟨by rw [h.moves, if_neg (by omega)], by omega, by omega⟩
end Go.Proofs.Ytkeikkkcmackeaa

namespace Go.Proofs.Ytkeikkkcmackeaa
open Go.RowKit
set_option linter.unusedVariables false
set_option linter.unusedSimpArgs false
set_option maxRecDepth 100000

section
variable {w : World} {g : Nat} {f : Nat → Int}
set_option maxHeartbeats 1000000 in
theorem done_move (A : Da w g f) (R : Rng f) (c : Nat) (hc : c < 8) (ho : First (f 96) c) (hw : f 101 = 0) (v : Int) :
    Calls Try.prog 14 #[.pointer (some ⟨g, 0, none⟩), .int .u8 v] w (Wrote w g (doneM c f) (.tuple #[])) := by
  have c101 := A.cell (j := 101) (by omega)
  rw [hw] at c101
  have MD := Lib.hid (moveDone_any A R c hc ho)
  clear A R ho hw
  go_enter Try.func14, Try.ntmps14
  go_wp2_with fail
  refine MD.out.mono ?_
  rintro e w2 ⟨rfl, ha, hu⟩
  have HA := Lib.hid ha
  have HU := Lib.hid hu
  clear ha hu
  go_wp2_with fail
  go_end0
  exact ⟨rfl, HA.out, HU.out⟩
end
set_option maxHeartbeats 1000000 in
theorem step_any (m : Int) (w : World) (m0 : 0 ≤ m) (m1 : m ≤ 255) : Calls Try.prog 12 #[.int .u8 m] w (Says w (.int .i64 (stepAt m))) := by
  have e := and3 (m / 8) (by omega) (by omega)
  unfold stepAt
  obtain ⟨k, hk⟩ : ∃ k, m / 8 % 4 = k := ⟨_, rfl⟩
  rw [hk] at e ⊢
  clear hk
  by_cases k0 : k = 0
  · subst k0
    rw [if_pos rfl]
    go_enter Try.func12, Try.ntmps12
    go_wp2_with fail
    go_ret
    exact ⟨rfl, Below.refl _ _⟩
  by_cases k2 : k = 2
  · subst k2
    rw [if_neg k0, if_pos rfl]
    go_enter Try.func12, Try.ntmps12
    go_wp2_with fail
    go_ret
    exact ⟨rfl, Below.refl _ _⟩
  · rw [if_neg k0, if_neg k2]
    have t0 : (k == 0) = false := by simpa using k0
    have t2 : (k == 2) = false := by simpa using k2
    go_enter Try.func12, Try.ntmps12
    go_wp2_with fail
    go_ret
    exact ⟨rfl, Below.refl _ _⟩
set_option maxHeartbeats 1000000 in
theorem port_any (m : Int) (n : Nat) (w : World) (m0 : 0 ≤ m) (m1 : m ≤ 255) (n1 : n ≤ 65536) : Calls Try.prog 13 #[.int .u8 m, .int .i64 n] w (Says w (.int .u8 (patOf m n))) := by
  have e := and7 m m0 m1
  have hp : patOf m n = patOf (m % 8) n := by
    unfold patOf; rw [Int.emod_emod_of_dvd m (by decide : (8:Int) ∣ 8)]
  rw [hp]
  obtain ⟨k, hk⟩ : ∃ k, m % 8 = k := ⟨_, rfl⟩
  have k0 : 0 ≤ k := by omega
  have k7 : k ≤ 7 := by omega
  rw [hk] at e ⊢
  clear hk hp
  have a0 : 0 ≤ (n : Int) := by omega
  have a1 : (n : Int) ≤ 65536 := by omega
  rcases (show k = 0 ∨ k = 1 ∨ k = 2 ∨ k = 3 ∨ k = 4 ∨ k = 5 ∨ k = 6 ∨ k = 7 by omega) with rfl | rfl | rfl | rfl | rfl | rfl | rfl | rfl
  all_goals
    go_enter Try.func13, Try.ntmps13
    go_wp2_with fail
    go_ret
    refine ⟨?_, Below.refl _ _⟩
    first
      | rfl
      | (simp only [patOf]; rfl)
      | (simp [patOf]; omega)
      | (simp [patOf])
end Go.Proofs.Ytkeikkkcmackeaa

namespace Go.Proofs.Ytkeikkkcmackeaa
open Go.RowKit
set_option linter.unusedVariables false
set_option linter.unusedSimpArgs false
set_option maxRecDepth 100000

theorem wr_at {p : Int} (c k : Nat) (hc : c < 8) (hk : k < 12) (hp : p = 17152 + 16 * c + k) (v : Int) (f : Nat → Int) : wrF p v f = (true, put1 f (c * 12 + k) v) := by
  have h : plc p = some (c * 12 + k) := by
    unfold plc
    rw [if_neg (by omega), if_neg (by omega), if_neg (by omega)]
    congr 1
    omega
  unfold wrF
  rw [if_neg (by omega), if_neg (by omega), h]
theorem or_zero8 (v : Int) (h0 : 0 ≤ v) (h1 : v ≤ 255) : bits .or .u8 0 v = v := byte_fact (P := fun v => bits .or .u8 0 v = v) (by decide +kernel) v h0 h1
theorem wr_go (v : Int) (f : Nat → Int) (h : f 96 = 0) (h0 : 0 ≤ v) (h1 : v ≤ 255) : wrF 16907 v f = (true, put1 (put1 f 97 0) 96 v) := by
  unfold wrF; rw [if_pos rfl, if_pos h, h, or_zero8 v h0 h1]
theorem wr_tab (v : Int) (f : Nat → Int) : wrF 16908 v f = (true, put1 f 98 v) := by
  unfold wrF; rw [if_neg (by decide), if_pos rfl]
theorem rng_zero : Rng (fun _ => 0) := fun _ => ⟨Int.le_refl 0, show (0:Int) ≤ 255 by decide⟩
/-- One write more: of a byte of a channel. -/
theorem write_at {w : World} {g : Nat} {f : Nat → Int} (A : Da w g f) {p : Int} (c k : Nat) (hc : c < 8) (hk : k < 12) (hp : p = 17152 + 16 * c + k) (v : Int) :
    Calls Try.prog 10 #[.pointer (some ⟨g, 0, none⟩), .int .u16 p, .int .u8 v] w (Wrote w g (put1 f (c * 12 + k) v) (.bool true)) := by
  have := write_any A p v (by omega) (by omega)
  rw [wr_at c k hc hk hp] at this
  exact this
theorem write_go {w : World} {g : Nat} {f : Nat → Int} (A : Da w g f) (v : Int) (h : f 96 = 0) (h0 : 0 ≤ v) (h1 : v ≤ 255) :
    Calls Try.prog 10 #[.pointer (some ⟨g, 0, none⟩), .int .u16 16907, .int .u8 v] w (Wrote w g (put1 (put1 f 97 0) 96 v) (.bool true)) := by
  have := write_any A 16907 v (by omega) (by omega)
  rw [wr_go v f h h0 h1] at this
  exact this
theorem write_tab {w : World} {g : Nat} {f : Nat → Int} (A : Da w g f) (v : Int) :
    Calls Try.prog 10 #[.pointer (some ⟨g, 0, none⟩), .int .u16 16908, .int .u8 v] w (Wrote w g (put1 f 98 v) (.bool true)) := by
  have := write_any A 16908 v (by omega) (by omega)
  rw [wr_tab v f] at this
  exact this
/-- A move begins. -/
theorem Mv.init {c : Nat} {m tp bank at_ count : Int} (hc : c < 8) {f : Nat → Int} (R : Rng f) (h0 : f (c * 12) = m) (h1 : f (c * 12 + 1) = tp) (h4 : f (c * 12 + 4) = bank) (ha : wordOf f (c * 12 + 2) = at_) (hn : wordOf f (c * 12 + 5) = count) (hw : f 101 = 0)
    (n : Nat) (hn0 : (count = 0 ∧ n = 65536) ∨ ((n : Int) = count ∧ 0 < n ∧ n < 65536)) : Mv c m tp bank at_ n 0 (put1 (put1 f 97 0) 96 (bitOf c)) := by
  obtain ⟨b0, b1, _, _⟩ := bit_rng c hc
  have wr := wordOf_rng R (c * 12 + 2)
  refine ⟨(R.put1 _ (by omega) (by omega)).put1 _ b0 b1, ?_, ?_, ?_, ?_, ?_, fun _ => ?_, ?_, ?_⟩
  · rw [put1_ne (by omega), put1_ne (by omega), h0]
  · rw [put1_ne (by omega), put1_ne (by omega), h1]
  · rw [put1_ne (by omega), put1_ne (by omega), h4]
  · rw [word_put1 (by omega) (by omega), word_put1 (by omega) (by omega), ha]; simp; omega
  · rw [word_put1 (by omega) (by omega), word_put1 (by omega) (by omega), hn]; omega
  · rw [put1_ne (by omega), put1_at, if_pos rfl]; rfl
  · rw [put1_at, if_pos rfl, if_pos (by omega)]
  · rw [put1_ne (by omega), put1_ne (by omega), hw]

/-- The transfer of a move. -/
def nxT (m tp bank at_ : Int) (n k : Nat) : Int × Int × Int := if k < n then (kindOf m, bank * 65536 + (at_ + k * stepAt m) % 65536, (tp + patOf m k) % 256) else (0, 0, 0)
theorem next_mv {w : World} {g : Nat} {f : Nat → Int} (A : Da w g f) {c : Nat} (hc : c < 8) {m tp bank at_ : Int} {n k : Nat} (M : Mv c m tp bank at_ n k f) :
    Calls Try.prog 11 #[.pointer (some ⟨g, 0, none⟩)] w (Says w (.tuple #[trV (nxT m tp bank at_ n k).1 (nxT m tp bank at_ n k).2.1 (nxT m tp bank at_ n k).2.2, .bool (decide (k < n))])) := by
  by_cases hk : k < n
  · have h96 : f 96 = bitOf c := by rw [M.moves, if_pos hk]
    have := next_move A M.r c hc (by rw [h96]; exact (bit_rng c hc).2.2.1) M.way
    rw [M.next hk] at this
    unfold nxT
    rw [if_pos hk, decide_eq_true hk]
    exact this
  · have h96 : f 96 = 0 := by rw [M.moves, if_neg hk]
    unfold nxT
    rw [if_neg hk, decide_eq_false hk]
    exact next_none A h96 M.way
theorem done_mv {w : World} {g : Nat} {f : Nat → Int} (A : Da w g f) {c : Nat} (hc : c < 8) {m tp bank at_ : Int} {n k : Nat} (M : Mv c m tp bank at_ n k f) (hk : k < n) (v : Int) :
    Calls Try.prog 14 #[.pointer (some ⟨g, 0, none⟩), .int .u8 v] w (Wrote w g (doneM c f) (.tuple #[])) := by
  have h96 : f 96 = bitOf c := by rw [M.moves, if_pos hk]
  exact done_move A M.r c hc (by rw [h96]; exact (bit_rng c hc).2.2.1) M.way v
theorem Blk.ne {w : World} {g g' : Nat} {t t' : TypeId} {cs cs' : Array Value} (h : Blk w g t cs) (k : Blk w g' t' cs') (e : t ≠ t') : g ≠ g' := by
  rintro rfl
  unfold Blk at h k
  rw [h] at k
  cases k
  exact e rfl

set_option maxHeartbeats 4000000 in
theorem awake_any (w : World) : Calls Try.prog 8 #[] w (Says w (.bool true)) := by
  go_enter Try.func8, Try.ntmps8
  try simp only [List.append_eq, List.cons_append, List.nil_append]
  go_wp2_with fail
  refine (new_any w).mono ?_
  rintro e w1 ⟨g, rfl, hg, a1, hb1⟩
  have A1 := Lib.hid a1
  have B1 := Lib.hid hb1
  clear a1 hb1
  go_wp2_with fail
  refine (write_at A1.out 0 0 (by omega) (by omega) (by rfl) 1).mono ?_
  rintro e w2 ⟨rfl, a2, u2⟩
  have A2 := Lib.hid a2
  have B2 := Lib.hid (u2.out B1.out hg)
  clear a2 u2 A1 B1
  go_wp2_with fail
  refine (write_at A2.out 0 1 (by omega) (by omega) (by rfl) 24).mono ?_
  rintro e w3 ⟨rfl, a3, u3⟩
  have A3 := Lib.hid a3
  have B3 := Lib.hid (u3.out B2.out hg)
  clear a3 u3 A2 B2
  go_wp2_with fail
  refine (write_at A3.out 0 4 (by omega) (by omega) (by rfl) 126).mono ?_
  rintro e w4 ⟨rfl, a4, u4⟩
  have A4 := Lib.hid a4
  have B4 := Lib.hid (u4.out B3.out hg)
  clear a4 u4 A3 B3
  go_wp2_with fail
  refine (write_at A4.out 0 5 (by omega) (by omega) (by rfl) 3).mono ?_
  rintro e w5 ⟨rfl, a5, u5⟩
  have A5 := Lib.hid a5
  have B5 := Lib.hid (u5.out B4.out hg)
  clear a5 u5 A4 B4
  go_wp2_with fail
  refine (write_go A5.out 1 (by rfl) (by omega) (by omega)).mono ?_
  rintro e w6 ⟨rfl, a6, u6⟩
  have M0 : Mv 0 1 24 126 0 3 0 (put1 (put1 (put1 (put1 (put1 (put1 (fun _ => 0) (0 * 12 + 0) 1) (0 * 12 + 1) 24) (0 * 12 + 4) 126) (0 * 12 + 5) 3) 97 0) 96 1) := by
    have R0 : Rng (put1 (put1 (put1 (put1 (fun _ => 0) (0 * 12 + 0) 1) (0 * 12 + 1) 24) (0 * 12 + 4) 126) (0 * 12 + 5) 3) := (((rng_zero.put1 _ (by omega) (by omega)).put1 _ (by omega) (by omega)).put1 _ (by omega) (by omega)).put1 _ (by omega) (by omega)
    exact Mv.init (c := 0) (count := 3) (by omega) R0 rfl rfl rfl rfl rfl rfl 3 (by decide)
  obtain ⟨f6, hf6⟩ : ∃ f, put1 (put1 (put1 (put1 (put1 (put1 (fun _ => 0) (0 * 12 + 0) 1) (0 * 12 + 1) 24) (0 * 12 + 4) 126) (0 * 12 + 5) 3) 97 0) 96 1 = f := ⟨_, rfl⟩
  rw [hf6] at M0 a6
  have A6 := Lib.hid a6
  have B6 := Lib.hid (u6.out B5.out hg)
  have HM := Lib.hid M0
  clear a6 u6 A5 B5 hf6 M0
  go_wp2_with fail
  refine (next_mv A6.out (by omega) HM.out).mono ?_
  rintro e w7 ⟨rfl, hb7⟩
  have A7 := Lib.hid (A6.out.kept hb7)
  have B7 := Lib.hid (B6.out.trans (hb7.mono B6.out.size))
  clear hb7 A6 B6
  go_wp2_with fail
  obtain ⟨W8, hW⟩ : ∃ W8, W8 = w7.alloc (.cells #[.int .u8 (nxT 1 24 126 0 3 0).1, .int .u32 (nxT 1 24 126 0 3 0).2.1, .int .u8 (nxT 1 24 126 0 3 0).2.2] 30) := ⟨_, rfl⟩
  obtain ⟨gx, hgx⟩ : ∃ gx, gx = w7.heap.size := ⟨_, rfl⟩
  have X8 : Hid (Blk W8 gx 30 #[.int .u8 (nxT 1 24 126 0 3 0).1, .int .u32 (nxT 1 24 126 0 3 0).2.1, .int .u8 (nxT 1 24 126 0 3 0).2.2]) := by rw [hW, hgx]; exact Blk.new _ _ _
  have A8 : Hid (Da W8 g f6) := by rw [hW]; exact A7.out.alloc _
  have B8 : Hid (Below w.heap.size w W8) := by rw [hW]; exact belowA B7.out _
  have hgx' : w.heap.size ≤ gx := by rw [hgx]; exact B7.out.size
  rw [← hW, ← hgx]
  clear hW hgx A7 B7
  go_loopw [2, 3, 4] (fun i x is wr => ∃ k f gx, k ≤ 3 ∧ i = .int .i64 (k : Nat) ∧ x = .pointer (some ⟨gx, 0, none⟩) ∧ is = .bool (decide (k < 3)) ∧ Da wr g f ∧ Mv 0 1 24 126 0 3 k f ∧ Blk wr gx 30 #[.int .u8 (nxT 1 24 126 0 3 k).1, .int .u32 (nxT 1 24 126 0 3 k).2.1, .int .u8 (nxT 1 24 126 0 3 k).2.2] ∧ w.heap.size ≤ gx ∧ Below w.heap.size w wr) (fun i _ _ _ => 3 - (intOf i).toNat)
  case atStart => exact ⟨0, f6, gx, by omega, rfl, rfl, rfl, A8.out, HM.out, X8.out, hgx', B8.out⟩
  case round =>
    obtain ⟨k, f, gx, hk, rfl, rfl, rfl, a, mv, bx, hx, bw⟩ := hrel
    have hne : g ≠ gx := by
      obtain ⟨cs, q, _⟩ := a
      exact Blk.ne q bx (by decide)
    have A := Lib.hid a
    have M := Lib.hid mv
    have BX := Lib.hid bx
    have BW := Lib.hid bw
    clear a mv bx bw A8 HM X8 B8
    rcases (show k = 0 ∨ k = 1 ∨ k = 2 ∨ k = 3 by omega) with rfl | rfl | rfl | rfl
    · have x0 : wr.cell? ⟨gx, 0, none⟩ = some (.int .u8 2) := BX.out.cell 0
      have x1 : wr.cell? ⟨gx, 1, none⟩ = some (.int .u32 8257536) := BX.out.cell 1
      have x2 : wr.cell? ⟨gx, 2, none⟩ = some (.int .u8 24) := BX.out.cell 2
      go_wp2_with fail
      refine (done_mv A.out (by omega) M.out (by omega) 0).mono ?_
      rintro e w8 ⟨rfl, a8, u8⟩
      have x0 := keepU u8 x0 (by show gx ≠ g; omega)
      have x1 := keepU u8 x1 (by show gx ≠ g; omega)
      have x2 := keepU u8 x2 (by show gx ≠ g; omega)
      have M8 := Lib.hid (M.out.step (by omega) (by omega) (by omega))
      obtain ⟨f', hf'⟩ : ∃ f', doneM 0 f = f' := ⟨_, rfl⟩
      rw [hf'] at a8 M8
      have A8 := Lib.hid a8
      have B8 := Lib.hid (u8.out BW.out hg)
      clear a8 u8 A BX BW M hf'
      go_wp2_with fail
      obtain ⟨W9, hW⟩ : ∃ W9, W9 = w8.alloc (.cells #[.int .u8 2, .int .u32 8257536, .int .u8 24] 30) := ⟨_, rfl⟩
      obtain ⟨gy, hgy⟩ : ∃ gy, gy = w8.heap.size := ⟨_, rfl⟩
      have X9 : Hid (Blk W9 gy 30 #[.int .u8 2, .int .u32 8257536, .int .u8 24]) := by rw [hW, hgy]; exact Blk.new _ _ _
      have A9 : Hid (Da W9 g f') := by rw [hW]; exact A8.out.alloc _
      have B9 : Hid (Below w.heap.size w W9) := by rw [hW]; exact belowA B8.out _
      have hgy' : w.heap.size ≤ gy := by rw [hgy]; exact B8.out.size
      rw [← hW, ← hgy]
      clear hW hgy A8 B8 x0 x1 x2
      refine (next_mv A9.out (by omega) M8.out).mono ?_
      rintro e w10 ⟨rfl, hb10⟩
      have bx := X9.out.kept hb10
      have y0 := bx.cell 0
      have y1 := bx.cell 1
      have y2 := bx.cell 2
      have z0 := bx.frozen 0
      have z1 := bx.frozen 1
      have z2 := bx.frozen 2
      have BX := Lib.hid bx
      have A10 := Lib.hid (A9.out.kept hb10)
      have B10 := Lib.hid (B9.out.trans (hb10.mono B9.out.size))
      clear hb10 bx A9 B9 X9
      go_wp2_with fail
      have bz := ((BX.out.set_ 0 (.int .u8 (nxT 1 24 126 0 3 1).1)).set_ 1 (.int .u32 (nxT 1 24 126 0 3 1).2.1)).set_ 2 (.int .u8 (nxT 1 24 126 0 3 1).2.2)
      have hne2 : g ≠ gy := by
        obtain ⟨cs, q, _⟩ := A10.out
        exact Blk.ne q BX.out (by decide)
      have az := ((A10.out.other (p := ⟨gy, 0, none⟩) (Ne.symm hne2) (.int .u8 (nxT 1 24 126 0 3 1).1)).other (p := ⟨gy, 1, none⟩) (Ne.symm hne2) (.int .u32 (nxT 1 24 126 0 3 1).2.1)).other (p := ⟨gy, 2, none⟩) (Ne.symm hne2) (.int .u8 (nxT 1 24 126 0 3 1).2.2)
      have BZ := belowS (belowS (belowS B10.out (p := ⟨gy, 0, none⟩) hgy' (.int .u8 (nxT 1 24 126 0 3 1).1)) (p := ⟨gy, 1, none⟩) hgy' (.int .u32 (nxT 1 24 126 0 3 1).2.1)) (p := ⟨gy, 2, none⟩) hgy' (.int .u8 (nxT 1 24 126 0 3 1).2.2)
      exact ⟨⟨1, f', gy, by omega, rfl, rfl, rfl, az, M8.out, by simpa using bz, hgy', BZ⟩, by decide⟩
    · have x0 : wr.cell? ⟨gx, 0, none⟩ = some (.int .u8 2) := BX.out.cell 0
      have x1 : wr.cell? ⟨gx, 1, none⟩ = some (.int .u32 8257537) := BX.out.cell 1
      have x2 : wr.cell? ⟨gx, 2, none⟩ = some (.int .u8 25) := BX.out.cell 2
      go_wp2_with fail
      refine (done_mv A.out (by omega) M.out (by omega) 0).mono ?_
      rintro e w8 ⟨rfl, a8, u8⟩
      have x0 := keepU u8 x0 (by show gx ≠ g; omega)
      have x1 := keepU u8 x1 (by show gx ≠ g; omega)
      have x2 := keepU u8 x2 (by show gx ≠ g; omega)
      have M8 := Lib.hid (M.out.step (by omega) (by omega) (by omega))
      obtain ⟨f', hf'⟩ : ∃ f', doneM 0 f = f' := ⟨_, rfl⟩
      rw [hf'] at a8 M8
      have A8 := Lib.hid a8
      have B8 := Lib.hid (u8.out BW.out hg)
      clear a8 u8 A BX BW M hf'
      go_wp2_with fail
      obtain ⟨W9, hW⟩ : ∃ W9, W9 = w8.alloc (.cells #[.int .u8 2, .int .u32 8257537, .int .u8 25] 30) := ⟨_, rfl⟩
      obtain ⟨gy, hgy⟩ : ∃ gy, gy = w8.heap.size := ⟨_, rfl⟩
      have X9 : Hid (Blk W9 gy 30 #[.int .u8 2, .int .u32 8257537, .int .u8 25]) := by rw [hW, hgy]; exact Blk.new _ _ _
      have A9 : Hid (Da W9 g f') := by rw [hW]; exact A8.out.alloc _
      have B9 : Hid (Below w.heap.size w W9) := by rw [hW]; exact belowA B8.out _
      have hgy' : w.heap.size ≤ gy := by rw [hgy]; exact B8.out.size
      rw [← hW, ← hgy]
      clear hW hgy A8 B8 x0 x1 x2
      refine (next_mv A9.out (by omega) M8.out).mono ?_
      rintro e w10 ⟨rfl, hb10⟩
      have bx := X9.out.kept hb10
      have y0 := bx.cell 0
      have y1 := bx.cell 1
      have y2 := bx.cell 2
      have z0 := bx.frozen 0
      have z1 := bx.frozen 1
      have z2 := bx.frozen 2
      have BX := Lib.hid bx
      have A10 := Lib.hid (A9.out.kept hb10)
      have B10 := Lib.hid (B9.out.trans (hb10.mono B9.out.size))
      clear hb10 bx A9 B9 X9
      go_wp2_with fail
      have bz := ((BX.out.set_ 0 (.int .u8 (nxT 1 24 126 0 3 2).1)).set_ 1 (.int .u32 (nxT 1 24 126 0 3 2).2.1)).set_ 2 (.int .u8 (nxT 1 24 126 0 3 2).2.2)
      have hne2 : g ≠ gy := by
        obtain ⟨cs, q, _⟩ := A10.out
        exact Blk.ne q BX.out (by decide)
      have az := ((A10.out.other (p := ⟨gy, 0, none⟩) (Ne.symm hne2) (.int .u8 (nxT 1 24 126 0 3 2).1)).other (p := ⟨gy, 1, none⟩) (Ne.symm hne2) (.int .u32 (nxT 1 24 126 0 3 2).2.1)).other (p := ⟨gy, 2, none⟩) (Ne.symm hne2) (.int .u8 (nxT 1 24 126 0 3 2).2.2)
      have BZ := belowS (belowS (belowS B10.out (p := ⟨gy, 0, none⟩) hgy' (.int .u8 (nxT 1 24 126 0 3 2).1)) (p := ⟨gy, 1, none⟩) hgy' (.int .u32 (nxT 1 24 126 0 3 2).2.1)) (p := ⟨gy, 2, none⟩) hgy' (.int .u8 (nxT 1 24 126 0 3 2).2.2)
      exact ⟨⟨2, f', gy, by omega, rfl, rfl, rfl, az, M8.out, by simpa using bz, hgy', BZ⟩, by decide⟩
    · have x0 : wr.cell? ⟨gx, 0, none⟩ = some (.int .u8 2) := BX.out.cell 0
      have x1 : wr.cell? ⟨gx, 1, none⟩ = some (.int .u32 8257538) := BX.out.cell 1
      have x2 : wr.cell? ⟨gx, 2, none⟩ = some (.int .u8 24) := BX.out.cell 2
      go_wp2_with fail
      refine (done_mv A.out (by omega) M.out (by omega) 0).mono ?_
      rintro e w8 ⟨rfl, a8, u8⟩
      have x0 := keepU u8 x0 (by show gx ≠ g; omega)
      have x1 := keepU u8 x1 (by show gx ≠ g; omega)
      have x2 := keepU u8 x2 (by show gx ≠ g; omega)
      have M8 := Lib.hid (M.out.step (by omega) (by omega) (by omega))
      obtain ⟨f', hf'⟩ : ∃ f', doneM 0 f = f' := ⟨_, rfl⟩
      rw [hf'] at a8 M8
      have A8 := Lib.hid a8
      have B8 := Lib.hid (u8.out BW.out hg)
      clear a8 u8 A BX BW M hf'
      go_wp2_with fail
      obtain ⟨W9, hW⟩ : ∃ W9, W9 = w8.alloc (.cells #[.int .u8 2, .int .u32 8257538, .int .u8 24] 30) := ⟨_, rfl⟩
      obtain ⟨gy, hgy⟩ : ∃ gy, gy = w8.heap.size := ⟨_, rfl⟩
      have X9 : Hid (Blk W9 gy 30 #[.int .u8 2, .int .u32 8257538, .int .u8 24]) := by rw [hW, hgy]; exact Blk.new _ _ _
      have A9 : Hid (Da W9 g f') := by rw [hW]; exact A8.out.alloc _
      have B9 : Hid (Below w.heap.size w W9) := by rw [hW]; exact belowA B8.out _
      have hgy' : w.heap.size ≤ gy := by rw [hgy]; exact B8.out.size
      rw [← hW, ← hgy]
      clear hW hgy A8 B8 x0 x1 x2
      refine (next_mv A9.out (by omega) M8.out).mono ?_
      rintro e w10 ⟨rfl, hb10⟩
      have bx := X9.out.kept hb10
      have y0 := bx.cell 0
      have y1 := bx.cell 1
      have y2 := bx.cell 2
      have z0 := bx.frozen 0
      have z1 := bx.frozen 1
      have z2 := bx.frozen 2
      have BX := Lib.hid bx
      have A10 := Lib.hid (A9.out.kept hb10)
      have B10 := Lib.hid (B9.out.trans (hb10.mono B9.out.size))
      clear hb10 bx A9 B9 X9
      go_wp2_with fail
      have bz := ((BX.out.set_ 0 (.int .u8 (nxT 1 24 126 0 3 3).1)).set_ 1 (.int .u32 (nxT 1 24 126 0 3 3).2.1)).set_ 2 (.int .u8 (nxT 1 24 126 0 3 3).2.2)
      have hne2 : g ≠ gy := by
        obtain ⟨cs, q, _⟩ := A10.out
        exact Blk.ne q BX.out (by decide)
      have az := ((A10.out.other (p := ⟨gy, 0, none⟩) (Ne.symm hne2) (.int .u8 (nxT 1 24 126 0 3 3).1)).other (p := ⟨gy, 1, none⟩) (Ne.symm hne2) (.int .u32 (nxT 1 24 126 0 3 3).2.1)).other (p := ⟨gy, 2, none⟩) (Ne.symm hne2) (.int .u8 (nxT 1 24 126 0 3 3).2.2)
      have BZ := belowS (belowS (belowS B10.out (p := ⟨gy, 0, none⟩) hgy' (.int .u8 (nxT 1 24 126 0 3 3).1)) (p := ⟨gy, 1, none⟩) hgy' (.int .u32 (nxT 1 24 126 0 3 3).2.1)) (p := ⟨gy, 2, none⟩) hgy' (.int .u8 (nxT 1 24 126 0 3 3).2.2)
      exact ⟨⟨3, f', gy, by omega, rfl, rfl, rfl, az, M8.out, by simpa using bz, hgy', BZ⟩, by decide⟩
    · have x0 : wr.cell? ⟨gx, 0, none⟩ = some (.int .u8 0) := BX.out.cell 0
      go_wp2_with fail
      go_ret
      exact ⟨rfl, BW.out⟩
end Go.Proofs.Ytkeikkkcmackeaa
