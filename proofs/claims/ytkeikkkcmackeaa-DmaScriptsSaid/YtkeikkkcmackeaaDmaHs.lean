/- The channels with tables: one channel of them at a time, none indirect. The channels with tables begin, go on, end. The channels with tables: a line begins. The channels with tables: Frame, Line, entries. The channels with tables: what is next, what is done. -/
import Derived.Test.YtkeikkkcmackeaaDmaEs
import Derived.Test.YtkeikkkcmackeaaGoto
namespace Go.Proofs.Ytkeikkkcmackeaa
open Go.RowKit
set_option linter.unusedVariables false
set_option linter.unusedSimpArgs false
set_option maxRecDepth 100000

/-- A bit put. -/
def pt (x b : Int) (is : Bool) : Int := if is then bits .or .u8 (bits .andNot .u8 x b) b else bits .andNot .u8 x b
theorem u8_andNot_rng (x y : Int) (x0 : 0 ≤ x) (x1 : x ≤ 255) (y0 : 0 ≤ y) (y1 : y ≤ 255) : 0 ≤ bits .andNot .u8 x y ∧ bits .andNot .u8 x y ≤ 255 := by
  have := u8_andNot_nat x.toNat y.toNat (by omega) (by omega)
  rw [Int.toNat_of_nonneg x0, Int.toNat_of_nonneg y0] at this
  rw [this]
  have : x.toNat &&& (255 - y.toNat) ≤ x.toNat := Nat.and_le_left
  omega

section
variable {w : World} {g : Nat} {f : Nat → Int}
set_option maxHeartbeats 1000000 in
theorem putB_any (A : Da w g f) (i : Nat) (hi : i < 104) (b : Int) (is : Bool) :
    Calls Try.prog 73 #[.pointer (some ⟨g, i, none⟩), .int .u8 b, .bool is] w (Wrote w g (put1 f i (pt (f i) b is)) (.tuple #[])) := by
  have c := A.cell (j := i) hi
  have fr := A.frozen i
  obtain ⟨x, hx⟩ : ∃ x, f i = x := ⟨_, rfl⟩
  rw [hx] at c ⊢
  have HA := Lib.hid A
  clear A hx
  unfold pt
  obtain ⟨y, hy⟩ : ∃ y, bits .andNot .u8 x b = y := ⟨_, rfl⟩
  cases is
  · rw [hy]
    go_enter Try.func73, Try.ntmps73
    go_wp2_with fail
    go_end0
    exact ⟨rfl, HA.out.put1 hi _, (Upd.refl _ _).set _ _⟩
  · rw [hy]
    have c2 : (w.setCell ⟨g, i, none⟩ (.int .u8 y)).cell? ⟨g, i, none⟩ = some (.int .u8 y) := by
      have := (HA.out.put1 hi y).cell (j := i) hi
      rw [this]; unfold put1; rw [if_pos rfl]
    have fr2 : (w.setCell ⟨g, i, none⟩ (.int .u8 y)).frozen? ⟨g, i, none⟩ = false := (HA.out.put1 hi y).frozen i
    go_enter Try.func73, Try.ntmps73
    go_wp2_with fail
    go_end0
    have a2 := (HA.out.put1 hi y).put1 hi (bits .or .u8 y b)
    have e : put1 (put1 f i y) i (bits .or .u8 y b) = put1 f i (bits .or .u8 y b) := by
      funext j; unfold put1; split <;> rfl
    rw [e] at a2
    exact ⟨rfl, a2, ((Upd.refl _ _).set _ _).set _ _⟩

/-- A line is over. -/
def cntA (c : Nat) (f : Nat → Int) : Nat → Int := put1 f (c * 12 + 10) ((f (c * 12 + 10) - 1) % 256)
def cntB (c : Nat) (f : Nat → Int) : Nat → Int := put1 f 100 (pt (f 100) (bitOf c) (bits .and .u8 (f (c * 12 + 10)) 128 != 0))
def cntC (c : Nat) (f : Nat → Int) : Bool × (Nat → Int) := if f (c * 12 + 10) % 128 = 0 then (false, put1 f 103 8) else (true, put1 f 102 (bits .andNot .u8 (f 102) (bitOf c)))
def cntF (c : Nat) (f : Nat → Int) : Bool × (Nat → Int) := cntC c (cntB c (cntA c f))
theorem and127 (m : Int) (h0 : 0 ≤ m) (h1 : m ≤ 255) : bits .and .u8 m 127 = m % 128 := byte_fact (P := fun m => bits .and .u8 m 127 = m % 128) (by decide +kernel) m h0 h1
theorem and64 (m : Int) (h0 : 0 ≤ m) (h1 : m ≤ 255) : bits .and .u8 m 64 = m / 64 % 2 * 64 := byte_fact (P := fun m => bits .and .u8 m 64 = m / 64 % 2 * 64) (by decide +kernel) m h0 h1

set_option maxHeartbeats 2000000 in
theorem counted_any (A : Da w g f) (R : Rng f) (c : Nat) (hc : c < 8) :
    Calls Try.prog 72 #[.pointer (some ⟨g, 0, none⟩), chP g (c * 12), .int .u8 (bitOf c)] w (Wrote w g (cntF c f).2 (.bool (cntF c f).1)) := by
  have c10 := A.cell (j := c * 12 + 10) (by omega)
  have f10 := A.frozen (c * 12 + 10)
  have r10 := R (c * 12 + 10)
  have ha : cntA c f = put1 f (c * 12 + 10) ((f (c * 12 + 10) - 1) % 256) := rfl
  have RA : Rng (cntA c f) := by rw [ha]; exact R.put1 _ (by omega) (by omega)
  have a1 := A.put1 (i := c * 12 + 10) (by omega) ((f (c * 12 + 10) - 1) % 256)
  rw [← ha] at a1
  have e10 : (cntA c f) (c * 12 + 10) = (f (c * 12 + 10) - 1) % 256 := by rw [ha]; unfold put1; rw [if_pos rfl]
  obtain ⟨z, hz⟩ : ∃ z, (f (c * 12 + 10) - 1) % 256 = z := ⟨_, rfl⟩
  have z0 : 0 ≤ z := by omega
  have z1 : z ≤ 255 := by omega
  have ew : IntKind.u8.wrap (f (c * 12 + 10) - 1) = z := by rw [IntKind.wrap_u8]; exact hz
  rw [hz] at a1 e10
  obtain ⟨fa, hfa⟩ : ∃ fa, cntA c f = fa := ⟨_, rfl⟩
  rw [hfa] at RA a1 e10
  have A1 := Lib.hid a1
  obtain ⟨q, hq⟩ : ∃ q : Bool, (bits .and .u8 z 128 != 0) = q := ⟨_, rfl⟩
  have PU := Lib.hid (fun (w' : World) (A' : Da w' g fa) => putB_any A' 100 (by omega) (bitOf c) q)
  have hb : cntB c fa = put1 fa 100 (pt (fa 100) (bitOf c) q) := by unfold cntB; rw [e10, hq]
  rw [← hb] at PU
  have eb10 : (cntB c fa) (c * 12 + 10) = z := by rw [hb]; unfold put1; rw [if_neg (by omega)]; exact e10
  obtain ⟨fb, hfb⟩ : ∃ fb, cntB c fa = fb := ⟨_, rfl⟩
  rw [hfb] at PU eb10
  have HF : Hid (cntF c f = cntC c fb) := by unfold cntF; rw [hfa, hfb]; exact rfl
  have hz1 : (w.setCell ⟨g, c * 12 + 10, none⟩ (.int .u8 z)).cell? ⟨g, c * 12 + 10, none⟩ = some (.int .u8 z) := by
    have := a1.cell (j := c * 12 + 10) (by omega)
    rwa [e10] at this
  have e127 := and127 z z0 z1
  have HE := Lib.hid eb10
  have HE0 := Lib.hid e10
  have HL := Lib.hid A.lt
  clear A R r10 ha RA a1 e10 hz hfa hb eb10 hfb
  go_enter Try.func72, Try.ntmps72
  go_upto_region 1 with (fail)
  go_cut [] from 7 to 13 (fun wx => Da wx g fa ∧ Upd w g wx)
  case first =>
    go_region_with (fail)
    all_goals
      go_wp2_with fail
      go_meet
      exact ⟨A1.out, ((Upd.refl _ _).set _ _).drew⟩
  case rest =>
    obtain ⟨a1, u1⟩ := hcut
    have c10' := a1.cell (j := c * 12 + 10) (by omega)
    rw [HE0.out] at c10'
    have A2 := Lib.hid a1
    have U2 := Lib.hid u1
    clear a1 u1 A1 c10 f10 ew hz1 HL
    go_upto_region 2 with (fail)
    go_cut [] from 14 to 24 (fun wx => Da wx g fb ∧ Upd wc g wx)
    case first =>
      obtain ⟨wd, hwd⟩ : ∃ wd, wd = wc.drew := ⟨_, rfl⟩
      have c10 : wd.cell? ⟨g, c * 12 + 10, none⟩ = some (.int .u8 z) := by rw [hwd]; exact c10'
      have AD : Hid (Da wd g fa) := by rw [hwd]; exact A2.out
      have UD : Hid (Upd wc g wd) := by rw [hwd]; exact (Upd.refl _ _).drew
      refine wp_region_still_tail 10 (by kernel_rfl) (by kernel_rfl) ?_
      change wpStill _ _ (World.drew _) (fun a' => wpList _ _ _ _ a' (World.drew _)) _ _
      rw [← hwd]
      clear hwd
      simp only [List.take_succ_cons, List.take_zero, List.drop_succ_cons, List.drop_zero]
      repeat still_step
      refine wpStill_nil ?_
      go_wp2_with fail
      refine (PU.out _ AD.out).mono ?_
      rintro e w3 ⟨rfl, ha3, hu3⟩
      go_wp2_with fail
      go_meet
      exact ⟨ha3, UD.out.trans hu3⟩
    case rest =>
      obtain ⟨ha3, hu3⟩ := hcut
      have A3 := Lib.hid ha3
      have U3 := Lib.hid (U2.out.trans hu3)
      have c10 := ha3.cell (j := c * 12 + 10) (by omega)
      rw [HE.out] at c10
      have c103 := ha3.cell (j := 103) (by omega)
      have f103 := ha3.frozen 103
      have c102 := ha3.cell (j := 102) (by omega)
      have f102 := ha3.frozen 102
      clear ha3 hu3 A2 U2 c10' PU
      by_cases hz0 : z % 128 = 0
      · have hcf : cntC c fb = (false, put1 fb 103 8) := by unfold cntC; rw [HE.out, if_pos hz0]
        have HR := Lib.hid (HF.out.trans hcf)
        rw [hz0] at e127
        clear hcf hz0
        go_wp2_with fail
        go_ret
        rw [HR.out]
        exact ⟨rfl, A3.out.put1 (by omega) _, U3.out.set _ _⟩
      · have hcf : cntC c fb = (true, put1 fb 102 (bits .andNot .u8 (fb 102) (bitOf c))) := by unfold cntC; rw [HE.out, if_neg hz0]
        have HR := Lib.hid (HF.out.trans hcf)
        have t : (z % 128 == 0) = false := by simpa using hz0
        obtain ⟨y, hy⟩ : ∃ y, bits .andNot .u8 (fb 102) (bitOf c) = y := ⟨_, rfl⟩
        rw [hy] at HR
        clear hcf
        go_wp2_with fail
        go_ret
        rw [HR.out]
        exact ⟨rfl, A3.out.put1 (by omega) _, U3.out.set _ _⟩
end
end Go.Proofs.Ytkeikkkcmackeaa

namespace Go.Proofs.Ytkeikkkcmackeaa
open Go.RowKit
set_option linter.unusedVariables false
set_option linter.unusedSimpArgs false
set_option maxRecDepth 100000

def endF (f : Nat → Int) : Nat → Int := put1 (put1 f 103 0) 101 0
section
variable {w : World} {g : Nat} {f : Nat → Int}
set_option maxHeartbeats 1000000 in
theorem begin_none (A : Da w g f) (hb : f 102 = 0) :
    Calls Try.prog 43 #[.pointer (some ⟨g, 0, none⟩)] w (Wrote w g (endF f) (.tuple #[])) := by
  have f103 := A.frozen 103
  have f101 := A.frozen 101
  have c103 := A.cell (j := 103) (by omega)
  have a1 := A.put1 (i := 103) (by omega) 0
  have c102 := a1.cell (j := 102) (by omega)
  have c101 := a1.cell (j := 101) (by omega)
  have e : put1 f 103 0 102 = 0 := by unfold put1; rw [if_neg (by decide)]; exact hb
  rw [e] at c102
  have A1 := Lib.hid a1
  have LN := Lib.hid (fun (w' : World) (A' : Da w' g (put1 f 103 0)) => least_none A')
  clear A a1 e hb
  go_enter Try.func43, Try.ntmps43
  go_step3
  go_wp2_with fail
  go_step3
  go_wp2_with fail
  refine (LN.out _ A1.out).mono ?_
  rintro e w2 ⟨rfl, hb2⟩
  have a2 := A1.out.kept hb2
  have c101 := a2.cell (j := 101) (by omega)
  have f101 := a2.frozen 101
  have A2 := Lib.hid a2
  have U2 := Lib.hid (((Upd.refl w g).set 103 (.int .u8 0)).trans (Upd.ofBelow hb2 g))
  clear a2 hb2 c102 A1 LN c103 f103
  go_wp2_with fail
  rw [Exit.noGoto_ret]
  go_end0
  exact ⟨rfl, A2.out.put1 (by omega) _, U2.out.set _ _⟩

def frmF (c : Nat) (f : Nat → Int) : Nat → Int :=
  let f2 := put1 (put1 f 103 0) 99 (pt (f 99) (bitOf c) false)
  put1 (put2 f2 (c * 12 + 8) (wordOf f2 (c * 12 + 2))) 103 8
set_option maxHeartbeats 2000000 in
/-- A frame: a table begins. -/
theorem begin_frame (A : Da w g f) (R : Rng f) (c : Nat) (hc : c < 8) (hb : f 102 = bitOf c) (hw : f 101 = 1) :
    Calls Try.prog 43 #[.pointer (some ⟨g, 0, none⟩)] w (Wrote w g (frmF c f) (.tuple #[])) := by
  obtain ⟨b0, b1, bf, _⟩ := bit_rng c hc
  have f103 := A.frozen 103
  have c103 := A.cell (j := 103) (by omega)
  have a1 := A.put1 (i := 103) (by omega) 0
  have c102 := a1.cell (j := 102) (by omega)
  have c101 := a1.cell (j := 101) (by omega)
  have e : put1 f 103 0 102 = bitOf c := by unfold put1; rw [if_neg (by decide)]; exact hb
  have e2 : put1 f 103 0 101 = 1 := by unfold put1; rw [if_neg (by decide)]; exact hw
  have e3 : put1 f 103 0 99 = f 99 := by unfold put1; rw [if_neg (by decide)]
  have R1 : Rng (put1 f 103 0) := R.put1 _ (by omega) (by omega)
  have hF : frmF c f = put1 (put2 (put1 (put1 f 103 0) 99 (pt (put1 f 103 0 99) (bitOf c) false)) (c * 12 + 8) (wordOf (put1 (put1 f 103 0) 99 (pt (put1 f 103 0 99) (bitOf c) false)) (c * 12 + 2))) 103 8 := by unfold frmF; rw [e3]
  obtain ⟨f1, hf1⟩ : ∃ f1, put1 f 103 0 = f1 := ⟨_, rfl⟩
  rw [hf1] at a1 e e2 R1 hF c102 c101
  rw [e] at c102
  rw [e2] at c101
  have A1 := Lib.hid a1
  have LN := Lib.hid (fun (w' : World) (A' : Da w' g f1) => least_any A' c hc (bitOf c) bf)
  have PU := Lib.hid (fun (w' : World) (A' : Da w' g f1) => putB_any A' 99 (by omega) (bitOf c) false)
  have r99 := R1 99
  have R2 : Rng (put1 f1 99 (pt (f1 99) (bitOf c) false)) := by
    refine R1.put1 _ ?_ ?_
    · exact (u8_andNot_rng _ _ r99.1 r99.2 b0 b1).1
    · exact (u8_andNot_rng _ _ r99.1 r99.2 b0 b1).2
  obtain ⟨f2, hf2⟩ : ∃ f2, put1 f1 99 (pt (f1 99) (bitOf c) false) = f2 := ⟨_, rfl⟩
  rw [hf2] at PU R2 hF
  have WD := Lib.hid (fun (w' : World) (A' : Da w' g f2) => word_any A' R2 (o := c * 12) 2 (by omega) (by omega))
  obtain ⟨z0, z1⟩ := wordOf_rng R2 (c * 12 + 2)
  have SE := Lib.hid (fun (w' : World) (A' : Da w' g f2) => set_any A' (o := c * 12) 8 (by omega) (by omega) (wordOf f2 (c * 12 + 2)) z0 z1)
  obtain ⟨z, hz⟩ : ∃ z, wordOf f2 (c * 12 + 2) = z := ⟨_, rfl⟩
  rw [hz] at WD SE z0 z1 hF
  have HF := Lib.hid hF
  have HB := Lib.hid hb
  have HFR := Lib.hid (show w.setCell ⟨g, 103, none⟩ (.int .u8 0) = w.setCell ⟨g, 103, none⟩ (.int .u8 0) from rfl)
  clear A R a1 e e2 e3 hf1 hf2 hz hF hb hw R1 R2 r99 HFR
  go_enter Try.func43, Try.ntmps43
  go_wp2_with fail
  go_step3
  go_wp2_with fail
  go_step3
  go_wp2_with fail
  refine (LN.out _ A1.out).mono ?_
  rintro e w2 ⟨rfl, hb2⟩
  have a2 := A1.out.kept hb2
  have c101 := keepC hb2 c101
  have A2 := Lib.hid a2
  have U2 := Lib.hid (((Upd.refl w g).set 103 (.int .u8 0)).trans (Upd.ofBelow hb2 g))
  clear a2 hb2 c102 A1 LN c103 f103
  go_wp2_with fail
  refine (PU.out _ A2.out).mono ?_
  rintro e w3 ⟨rfl, a3, u3⟩
  have A3 := Lib.hid a3
  have U3 := Lib.hid (U2.out.trans u3)
  clear a3 u3 A2 U2 PU c101
  go_wp2_with fail
  refine (WD.out _ A3.out).mono ?_
  rintro e w4 ⟨rfl, hb4⟩
  have A4 := Lib.hid (A3.out.kept hb4)
  have U4 := Lib.hid (U3.out.trans (Upd.ofBelow hb4 g))
  clear hb4 A3 U3 WD
  go_wp2_with fail
  refine (SE.out _ A4.out).mono ?_
  rintro e w5 ⟨rfl, a5, u5⟩
  have f103 := a5.frozen 103
  have c103 := a5.cell (j := 103) (by omega)
  have A5 := Lib.hid a5
  have U5 := Lib.hid (U4.out.trans u5)
  clear a5 u5 A4 U4 SE
  go_wp2_with fail
  rw [Exit.noGoto_ret]
  go_end0
  rw [HF.out]
  exact ⟨rfl, A5.out.put1 (by omega) _, U5.out.set _ _⟩
end
end Go.Proofs.Ytkeikkkcmackeaa

namespace Go.Proofs.Ytkeikkkcmackeaa
open Go.RowKit
set_option linter.unusedVariables false
set_option linter.unusedSimpArgs false
set_option maxRecDepth 100000

def linF (c : Nat) (f : Nat → Int) : Nat → Int :=
  if bits .and .u8 (f 100) (bitOf c) = 0 then (if (cntF c (put1 f 103 0)).1 = true then endF (cntF c (put1 f 103 0)).2 else (cntF c (put1 f 103 0)).2) else put1 f 103 0
theorem cntF_ne (c : Nat) (hc : c < 8) (f : Nat → Int) {j : Nat} (h1 : j ≠ c * 12 + 10) (h2 : j ≠ 100) (h3 : j ≠ 102) (h4 : j ≠ 103) : (cntF c f).2 j = f j := by
  unfold cntF cntC cntB cntA
  split
  · simp only []; rw [put1_ne h4, put1_ne h2, put1_ne h1]
  · simp only []; rw [put1_ne h3, put1_ne h2, put1_ne h1]
theorem cntF_102 (c : Nat) (hc : c < 8) (f : Nat → Int) (h : (cntF c f).1 = true) : (cntF c f).2 102 = bits .andNot .u8 (f 102) (bitOf c) := by
  unfold cntF cntC at *
  by_cases e : (cntB c (cntA c f)) (c * 12 + 10) % 128 = 0
  · rw [if_pos e] at h; cases h
  · rw [if_neg e]
    simp only []
    rw [put1_at, if_pos rfl]
    unfold cntB cntA
    rw [put1_ne (by decide), put1_ne (by omega)]
section
variable {w : World} {g : Nat} {f : Nat → Int}
set_option maxHeartbeats 2000000 in
theorem begin_line (A : Da w g f) (R : Rng f) (c : Nat) (hc : c < 8) (hb : f 102 = bitOf c) (hw : f 101 = 2) :
    Calls Try.prog 43 #[.pointer (some ⟨g, 0, none⟩)] w (Wrote w g (linF c f) (.tuple #[])) := by
  obtain ⟨b0, b1, bf, ba⟩ := bit_rng c hc
  have f103 := A.frozen 103
  have c103 := A.cell (j := 103) (by omega)
  have a1 := A.put1 (i := 103) (by omega) 0
  have c102 := a1.cell (j := 102) (by omega)
  have c101 := a1.cell (j := 101) (by omega)
  have e : put1 f 103 0 102 = bitOf c := by rw [put1_ne (by decide)]; exact hb
  have e2 : put1 f 103 0 101 = 2 := by rw [put1_ne (by decide)]; exact hw
  have e3 : put1 f 103 0 100 = f 100 := by rw [put1_ne (by decide)]
  have R1 : Rng (put1 f 103 0) := R.put1 _ (by omega) (by omega)
  have hL : linF c f = if bits .and .u8 (put1 f 103 0 100) (bitOf c) = 0 then (if (cntF c (put1 f 103 0)).1 = true then endF (cntF c (put1 f 103 0)).2 else (cntF c (put1 f 103 0)).2) else put1 f 103 0 := by unfold linF; rw [e3]
  obtain ⟨f1, hf1⟩ : ∃ f1, put1 f 103 0 = f1 := ⟨_, rfl⟩
  rw [hf1] at a1 e e2 R1 hL c102 c101
  rw [e] at c102
  rw [e2] at c101
  have A1 := Lib.hid a1
  have LN := Lib.hid (fun (w' : World) (A' : Da w' g f1) => least_any A' c hc (bitOf c) bf)
  have CN := Lib.hid (fun (w' : World) (A' : Da w' g f1) => counted_any A' R1 c hc)
  have h102 : (cntF c f1).1 = true → (cntF c f1).2 102 = 0 := fun h => by rw [cntF_102 c hc f1 h, e, ba]
  obtain ⟨⟨b, f2⟩, hcn⟩ : ∃ q, cntF c f1 = q := ⟨_, rfl⟩
  rw [hcn] at CN hL h102
  simp only at CN hL h102
  obtain ⟨dz, hdz⟩ : ∃ dz, bits .and .u8 (f1 100) (bitOf c) = dz := ⟨_, rfl⟩
  rw [hdz] at hL
  have HL := Lib.hid hL
  have H102 := Lib.hid h102
  have H100 : Hid (∀ w', Da w' g f1 → w'.cell? ⟨g, 100, none⟩ = some (.int .u8 (f1 100))) := fun w' a => a.cell (by omega)
  clear A R a1 e e2 e3 hf1 hL hb hw R1 h102 hcn
  go_enter Try.func43, Try.ntmps43
  go_wp2_with fail
  refine wp_scope_once ?_
  go_wp2_with fail
  go_step3
  go_wp2_with fail
  refine (LN.out _ A1.out).mono ?_
  rintro e w2 ⟨rfl, hb2⟩
  have a2 := A1.out.kept hb2
  have c101 := keepC hb2 c101
  have c100 := H100.out _ a2
  have A2 := Lib.hid a2
  have U2 := Lib.hid (((Upd.refl w g).set 103 (.int .u8 0)).trans (Upd.ofBelow hb2 g))
  clear a2 hb2 c102 A1 c103 f103 H100
  by_cases dz0 : dz = 0
  · subst dz0
    have hl := HL.out
    rw [if_pos rfl] at hl
    have HL2 := Lib.hid hl
    clear hl HL
    go_wp2_with fail
    refine (CN.out _ A2.out).mono ?_
    rintro e w3 ⟨rfl, a3, u3⟩
    have A3 := Lib.hid a3
    have U3 := Lib.hid (U2.out.trans u3)
    cases b
    · clear a3 u3 c100 c101 A2 U2 CN LN
      go_wp2_with fail
      rw [onceG_normal]
      go_wp2_with fail
      go_end0
      rw [HL2.out]
      exact ⟨rfl, A3.out, U3.out⟩
    · have h102 := H102.out rfl
      have c102 : ((w3.setCell ⟨g, 103, none⟩ (.int .u8 0))).cell? ⟨g, 102, none⟩ = some (.int .u8 0) := by
        have := (a3.put1 (i := 103) (by omega) 0).cell (j := 102) (by omega)
        rw [put1_ne (by decide), h102] at this
        exact this
      have f103 := a3.frozen 103
      have c103 := a3.cell (j := 103) (by omega)
      have a4 := a3.put1 (i := 103) (by omega) 0
      have A4 := Lib.hid a4
      have U4 := Lib.hid (U3.out.set 103 (.int .u8 0))
      have LZ := Lib.hid (fun (w' : World) (A' : Da w' g (put1 f2 103 0)) => least_none A')
      clear a3 u3 a4 c100 c101 A2 U2 CN LN h102
      go_wp2_with fail
      refine wp_goto ?_
      refine ⟨_, rfl, ?_⟩
      go_wp2_with fail
      try go_step3
      go_wp2_with fail
      refine (LZ.out _ A4.out).mono ?_
      rintro e w5 ⟨rfl, hb5⟩
      have a5 := A4.out.kept hb5
      have f101 := a5.frozen 101
      have c101 := a5.cell (j := 101) (by omega)
      have A5 := Lib.hid a5
      have U5 := Lib.hid (U4.out.trans (Upd.ofBelow hb5 g))
      clear a5 hb5 c102 f103 c103 A4 U4 LZ
      go_wp2_with fail
      rw [Exit.noGoto_ret]
      go_end0
      rw [HL2.out]
      exact ⟨rfl, A5.out.put1 (by omega) _, U5.out.set _ _⟩
  · have hl := HL.out
    rw [if_neg dz0] at hl
    have HL2 := Lib.hid hl
    have t : (dz == 0) = false := by simpa using dz0
    clear hl HL CN LN
    go_wp2_with fail
    rw [onceG_normal]
    go_wp2_with fail
    go_end0
    rw [HL2.out]
    exact ⟨rfl, A2.out, U2.out⟩
end
end Go.Proofs.Ytkeikkkcmackeaa

namespace Go.Proofs.Ytkeikkkcmackeaa
open Go.RowKit
set_option linter.unusedVariables false
set_option linter.unusedSimpArgs false
set_option maxRecDepth 100000

section
variable {w : World} {g : Nat} {f : Nat → Int}
def frameF (c : Nat) (f : Nat → Int) : Nat → Int := frmF c (put1 (put1 f 101 1) 102 (bitOf c))
set_option maxHeartbeats 2000000 in
theorem frame_any (A : Da w g f) (R : Rng f) (c : Nat) (hc : c < 8) (ht : f 98 = bitOf c) :
    Calls Try.prog 18 #[.pointer (some ⟨g, 0, none⟩)] w (Wrote w g (frameF c f) (.tuple #[])) := by
  obtain ⟨b0, b1, bf, ba⟩ := bit_rng c hc
  have c98 := A.cell (j := 98) (by omega)
  rw [ht] at c98
  have c101 := A.cell (j := 101) (by omega)
  have c102 := A.cell (j := 102) (by omega)
  have f101 := A.frozen 101
  have f102 := A.frozen 102
  have a2 := (A.put1 (i := 101) (by omega) 1).put1 (i := 102) (by omega) (bitOf c)
  have R2 : Rng (put1 (put1 f 101 1) 102 (bitOf c)) := (R.put1 _ (by omega) (by omega)).put1 _ b0 b1
  have BG := Lib.hid (begin_frame a2 R2 c hc (by rw [put1_at, if_pos rfl]) (by rw [put1_ne (by decide), put1_at, if_pos rfl]))
  clear A R ht a2 R2
  go_enter Try.func18, Try.ntmps18
  go_wp2_with fail
  refine BG.out.mono ?_
  rintro e w2 ⟨rfl, a3, u3⟩
  have A3 := Lib.hid a3
  have U3 := Lib.hid ((((Upd.refl w g).set 101 (.int .u8 1)).set 102 (.int .u8 (bitOf c))).trans u3)
  clear a3 u3
  go_wp2_with fail
  go_end0
  exact ⟨rfl, A3.out, U3.out⟩

/-- A line: b: which tables go on. -/
def lineA (b : Int) (f : Nat → Int) : Nat → Int := put1 (put1 f 101 2) 102 b
set_option maxHeartbeats 2000000 in
theorem line_pre (A : Da w g f) (b : Int) (hb : bits .andNot .u8 (f 98) (f 99) = b) (hw : f 101 = 0) (f' : Nat → Int)
    (BG : ∀ w', Da w' g (lineA b f) → Calls Try.prog 43 #[.pointer (some ⟨g, 0, none⟩)] w' (Wrote w' g f' (.tuple #[]))) :
    Calls Try.prog 19 #[.pointer (some ⟨g, 0, none⟩)] w (Wrote w g f' (.tuple #[])) := by
  have c98 := A.cell (j := 98) (by omega)
  have c99 := A.cell (j := 99) (by omega)
  have c101 := A.cell (j := 101) (by omega)
  rw [hw] at c101
  have c102 := A.cell (j := 102) (by omega)
  have f101 := A.frozen 101
  have f102 := A.frozen 102
  have A2 := Lib.hid ((A.put1 (i := 101) (by omega) 2).put1 (i := 102) (by omega) b)
  have HBG := Lib.hid BG
  obtain ⟨x, hx⟩ : ∃ x, f 98 = x := ⟨_, rfl⟩
  obtain ⟨y, hy⟩ : ∃ x, f 99 = x := ⟨_, rfl⟩
  rw [hx, hy] at hb
  rw [hx] at c98
  rw [hy] at c99
  clear A hw BG hx hy
  go_enter Try.func19, Try.ntmps19
  go_upto_region 1 with (fail)
  go_cut [] from 11 to 25 (fun wx => Da wx g (lineA b f) ∧ Upd w g wx)
  case first =>
    go_region_with (fail)
    all_goals
      go_wp2_with fail
      go_meet
      exact ⟨A2.out, (((Upd.refl _ _).set _ _).set _ _).drew⟩
  case rest =>
    obtain ⟨a1, u1⟩ := hcut
    have BG1 := Lib.hid (HBG.out _ a1)
    have U1 := Lib.hid u1
    clear a1 u1 c98 c99 c101 c102 f101 f102 A2 HBG
    go_wp2_with fail
    refine BG1.out.mono ?_
    rintro e w2 ⟨rfl, a3, u3⟩
    have A3 := Lib.hid a3
    have U3 := Lib.hid (U1.out.trans u3)
    clear a3 u3
    go_wp2_with fail
    go_end0
    exact ⟨rfl, A3.out, U3.out⟩
theorem line_any (A : Da w g f) (R : Rng f) (c : Nat) (hc : c < 8) (hb : bits .andNot .u8 (f 98) (f 99) = bitOf c) (hw : f 101 = 0) :
    Calls Try.prog 19 #[.pointer (some ⟨g, 0, none⟩)] w (Wrote w g (linF c (lineA (bitOf c) f)) (.tuple #[])) := by
  obtain ⟨b0, b1, bf, ba⟩ := bit_rng c hc
  refine line_pre A (bitOf c) hb hw _ fun w' a' => begin_line a' ?_ c hc ?_ ?_
  · exact (R.put1 _ (by omega) (by omega)).put1 _ b0 b1
  · unfold lineA; rw [put1_at, if_pos rfl]
  · unfold lineA; rw [put1_ne (by decide), put1_at, if_pos rfl]
theorem line_none (A : Da w g f) (hb : bits .andNot .u8 (f 98) (f 99) = 0) (hw : f 101 = 0) :
    Calls Try.prog 19 #[.pointer (some ⟨g, 0, none⟩)] w (Wrote w g (endF (lineA 0 f)) (.tuple #[])) :=
  line_pre A 0 hb hw _ fun w' a' => begin_none a' (by unfold lineA; rw [put1_at, if_pos rfl])

/-- A byte of an entry. -/
def entA (c : Nat) (v : Int) (f : Nat → Int) : Nat → Int := put1 (put2 f (c * 12 + 8) ((wordOf f (c * 12 + 8) + 1) % 65536)) (c * 12 + 10) v
def entF (c : Nat) (v : Int) (f : Nat → Int) : Nat → Int :=
  endF (put1 (if v = 0 then put1 (entA c v f) 99 (bits .or .u8 (f 99) (bitOf c)) else put1 (entA c v f) 100 (bits .or .u8 (f 100) (bitOf c))) 102 0)
theorem entA_ne {c j : Nat} {v : Int} {f : Nat → Int} (h1 : j ≠ c * 12 + 8) (h2 : j ≠ c * 12 + 9) (h3 : j ≠ c * 12 + 10) : entA c v f j = f j := by
  unfold entA; rw [put1_ne h3, put2_ne h1 h2]
set_option maxHeartbeats 4000000 in
theorem entry_any (A : Da w g f) (R : Rng f) (c : Nat) (hc : c < 8) (hb : f 102 = bitOf c) (hs : f 103 = 8) (hm : f (c * 12) / 64 % 2 = 0) (v : Int) :
    Calls Try.prog 42 #[.pointer (some ⟨g, 0, none⟩), .int .u8 v] w (Wrote w g (entF c v f) (.tuple #[])) := by
  obtain ⟨b0, b1, bf, ba⟩ := bit_rng c hc
  have c102 := A.cell (j := 102) (by omega)
  rw [hb] at c102
  have LE := Lib.hid (fun (w' : World) (A' : Da w' g f) => least_any A' c hc (bitOf c) bf)
  have NX := Lib.hid (fun (w' : World) (A' : Da w' g f) => next_any A' R (o := c * 12) 8 (by omega) (by omega))
  have rm := R (c * 12)
  have e64 := and64 (f (c * 12)) rm.1 rm.2
  rw [hm, Int.zero_mul] at e64
  have E := fun (j : Nat) (h1 : j ≠ c * 12 + 8) (h2 : j ≠ c * 12 + 9) (h3 : j ≠ c * 12 + 10) => (entA_ne h1 h2 h3 : entA c v f j = f j)
  have hA : entA c v f = put1 (put2 f (c * 12 + 8) ((wordOf f (c * 12 + 8) + 1) % 65536)) (c * 12 + 10) v := rfl
  have e103 : (put2 f (c * 12 + 8) ((wordOf f (c * 12 + 8) + 1) % 65536)) 103 = 8 := by rw [put2_ne (by omega) (by omega)]; exact hs
  obtain ⟨f1, hf1⟩ : ∃ f1, put2 f (c * 12 + 8) ((wordOf f (c * 12 + 8) + 1) % 65536) = f1 := ⟨_, rfl⟩
  rw [hf1] at NX hA e103
  obtain ⟨fe, hfe⟩ : ∃ fe, entA c v f = fe := ⟨_, rfl⟩
  have hF : entF c v f = endF (put1 (if v = 0 then put1 fe 99 (bits .or .u8 (f 99) (bitOf c)) else put1 fe 100 (bits .or .u8 (f 100) (bitOf c))) 102 0) := by unfold entF; rw [hfe]
  rw [hfe] at hA E
  have e99 := E 99 (by omega) (by omega) (by omega)
  have e100 := E 100 (by omega) (by omega) (by omega)
  have e102 := (E 102 (by omega) (by omega) (by omega)).trans hb
  have em := E (c * 12) (by omega) (by omega) (by omega)
  have HE := Lib.hid hA
  have HF := Lib.hid hF
  have H99 := Lib.hid e99
  have H100 := Lib.hid e100
  have H102 := Lib.hid e102
  have HM := Lib.hid em
  have H103 := Lib.hid e103
  have HA := Lib.hid A
  clear A R E hA hf1 hfe hF e99 e100 e102 em e103 hb hs hm rm
  go_enter Try.func42, Try.ntmps42
  go_wp2_with fail
  refine wp_scope_once ?_
  go_wp2_with fail
  refine (LE.out _ HA.out).mono ?_
  rintro e w1 ⟨rfl, hb1⟩
  have A1 := Lib.hid (HA.out.kept hb1)
  have U1 := Lib.hid (Upd.ofBelow hb1 g)
  clear hb1 HA LE c102
  go_wp2_with fail
  refine (NX.out _ A1.out).mono ?_
  rintro e w2 ⟨rfl, a2, u2⟩
  have c103 := a2.cell (j := 103) (by omega)
  rw [H103.out] at c103
  have c10 := a2.cell (j := c * 12 + 10) (by omega)
  have f10 := a2.frozen (c * 12 + 10)
  have a3 := a2.put1 (i := c * 12 + 10) (by omega) v
  rw [← HE.out] at a3
  have k99 := a3.cell (j := 99) (by omega)
  have k100 := a3.cell (j := 100) (by omega)
  have k102 := a3.cell (j := 102) (by omega)
  have km := a3.cell (j := c * 12) (by omega)
  rw [H99.out] at k99
  rw [H100.out] at k100
  rw [H102.out] at k102
  rw [HM.out] at km
  have f99 := a3.frozen 99
  have f100 := a3.frozen 100
  have f102 := a3.frozen 102
  have A3 := Lib.hid a3
  have U3 := Lib.hid ((U1.out.trans u2).set (c * 12 + 10) (.int .u8 v))
  clear a2 u2 a3 A1 U1 NX
  by_cases hv : v = 0
  · subst hv
    obtain ⟨y, hy⟩ : ∃ y, bits .or .u8 (f 99) (bitOf c) = y := ⟨_, rfl⟩
    have hff := HF.out
    rw [if_pos rfl, hy] at hff
    have HF2 := Lib.hid hff
    have a4 := A3.out.put1 (i := 99) (by omega) y
    have k102' := a4.cell (j := 102) (by omega)
    rw [put1_ne (by decide), H102.out] at k102'
    have f102' := a4.frozen 102
    have a5 := a4.put1 (i := 102) (by omega) 0
    have A5 := Lib.hid a5
    have BG := Lib.hid (begin_none a5 (by rw [put1_at, if_pos rfl]))
    have U5 := Lib.hid ((U3.out.set 99 (.int .u8 y)).set 102 (.int .u8 0))
    clear a4 a5 hff HF
    go_wp2_with fail
    refine wp_goto ?_
    refine ⟨_, rfl, ?_⟩
    go_wp2_with fail
    try go_step3
    go_wp2_with fail
    refine BG.out.mono ?_
    rintro e w5 ⟨rfl, a6, u6⟩
    have A6 := Lib.hid a6
    have U6 := Lib.hid (U5.out.trans u6)
    clear a6 u6
    go_wp2_with fail
    rw [noGoto_normal]
    go_wp2_with fail
    go_end0
    rw [HF2.out]
    exact ⟨rfl, A6.out, U6.out⟩
  · obtain ⟨y, hy⟩ : ∃ y, bits .or .u8 (f 100) (bitOf c) = y := ⟨_, rfl⟩
    have hff := HF.out
    rw [if_neg hv, hy] at hff
    have HF2 := Lib.hid hff
    have t : (v == 0) = false := by simpa using hv
    have a4 := A3.out.put1 (i := 100) (by omega) y
    have k102' := a4.cell (j := 102) (by omega)
    rw [put1_ne (by decide), H102.out] at k102'
    have f102' := a4.frozen 102
    have a5 := a4.put1 (i := 102) (by omega) 0
    have A5 := Lib.hid a5
    have BG := Lib.hid (begin_none a5 (by rw [put1_at, if_pos rfl]))
    have U5 := Lib.hid ((U3.out.set 100 (.int .u8 y)).set 102 (.int .u8 0))
    clear a4 a5 hff HF hv
    go_wp2_with fail
    refine wp_goto ?_
    refine ⟨_, rfl, ?_⟩
    go_wp2_with fail
    try go_step3
    go_wp2_with fail
    try go_step3
    go_wp2_with fail
    refine BG.out.mono ?_
    rintro e w5 ⟨rfl, a6, u6⟩
    have A6 := Lib.hid a6
    have U6 := Lib.hid (U5.out.trans u6)
    clear a6 u6
    go_wp2_with fail
    rw [noGoto_normal]
    go_wp2_with fail
    go_end0
    rw [HF2.out]
    exact ⟨rfl, A6.out, U6.out⟩
end
end Go.Proofs.Ytkeikkkcmackeaa

namespace Go.Proofs.Ytkeikkkcmackeaa
open Go.RowKit
set_option linter.unusedVariables false
set_option linter.unusedSimpArgs false
set_option maxRecDepth 100000

def lens : ByteArray := ⟨#[49, 50, 50, 52, 52, 52, 50, 52]⟩
def lenB (i : Int) : Int := ((lens[i.toNat]?).getD 0).toNat
@[go_sem high] theorem fold_lens : (⟨#[49, 50, 50, 52, 52, 52, 50, 52]⟩ : ByteArray) = lens := rfl
theorem lens_size : lens.size = 8 := by decide +kernel
@[go_sem high] theorem run_index_lens {P : Program} (w : World) (t : TypeId) (k : IntKind) (i : Int) (h : P.underlying t = some .string) (h0 : 0 ≤ i) (h1 : i ≤ 7) :
    (Instr.index t (.string lens) (.int k i)).run P w = .ok (.int .u8 (lenB i)) w := by
  have hi : 0 ≤ i ∧ i < (lens.size : Int) := by rw [lens_size]; omega
  have h2 : i.toNat < lens.size := by rw [lens_size]; omega
  rw [run_index_string w t lens k i h, dif_pos hi]
  simp only [lenB, ByteArray.getElem?_lt' _ _ h2, Option.getD_some]
theorem lenB_is (m : Int) (m0 : 0 ≤ m) (m1 : m ≤ 7) : lenB m = 48 + lenOf m := by
  have h : ∀ a : Fin 8, lenB (a.val : Int) = 48 + lenOf a.val := by decide +kernel
  have := h ⟨m.toNat, by omega⟩
  simp only [] at this
  rwa [Int.toNat_of_nonneg m0] at this
theorem lenOf_mod (m : Int) : lenOf (m % 8) = lenOf m := by
  unfold lenOf; rw [Int.emod_emod_of_dvd m (by decide : (8:Int) ∣ 8)]
theorem lenOf_rng (m : Int) : 1 ≤ lenOf m ∧ lenOf m ≤ 4 := by unfold lenOf; split <;> (try split) <;> omega

section
variable {w : World} {g o : Nat} {f : Nat → Int}
set_option maxHeartbeats 1000000 in
theorem length_any (A : Da w g f) (R : Rng f) (ho : o + 12 ≤ 104) :
    Calls Try.prog 71 #[chP g o] w (fun e w' => e = .returned (.int .u8 (lenOf (f o))) ∧ w' = w) := by
  have c0 := A.cell (j := o) (by omega)
  have r0 := R o
  obtain ⟨m, hm⟩ : ∃ z, f o = z := ⟨_, rfl⟩
  rw [hm] at c0 r0 ⊢
  obtain ⟨m0, m1⟩ := r0
  have e1 := and7 m m0 m1
  have e2 := lenB_is (m % 8) (by omega) (by omega)
  rw [lenOf_mod] at e2
  have pr := lenOf_rng m
  obtain ⟨p, hp⟩ : ∃ p, lenOf m = p := ⟨_, rfl⟩
  rw [hp] at e2 pr ⊢
  obtain ⟨p0, p1⟩ := pr
  have j0 : 0 ≤ m % 8 := by omega
  have j1 : m % 8 ≤ 7 := by omega
  have e3 : 48 + p - 48 = p := by omega
  clear A R hm hp
  go_enter Try.func71, Try.ntmps71
  go_wp2_with fail
  go_ret
  exact ⟨by simp [e3], rfl⟩

/-- What a table asks for next. -/
def tabT (c : Nat) (f : Nat → Int) : Int × Int × Int :=
  if 8 ≤ f 103 then (1, liesOf f (c * 12 + 4) (c * 12 + 8), 0) else (kindOf (f (c * 12)), liesOf f (c * 12 + 4) (c * 12 + 8), (f (c * 12 + 1) + patOf (f (c * 12)) (f 103)) % 256)
set_option maxHeartbeats 2000000 in
theorem tableNext_any (A : Da w g f) (R : Rng f) (c : Nat) (hc : c < 8) (hb : f 102 = bitOf c) (hm : f (c * 12) / 64 % 2 = 0) :
    Calls Try.prog 36 #[.pointer (some ⟨g, 0, none⟩)] w (Says w (trV (tabT c f).1 (tabT c f).2.1 (tabT c f).2.2)) := by
  obtain ⟨b0, b1, bf, ba⟩ := bit_rng c hc
  have c102 := A.cell (j := 102) (by omega)
  rw [hb] at c102
  have c103 := A.cell (j := 103) (by omega)
  have cm := A.cell (j := c * 12) (by omega)
  have r103 := R 103
  have rm := R (c * 12)
  have e64 := and64 (f (c * 12)) rm.1 rm.2
  rw [hm, Int.zero_mul] at e64
  have hlt := A.lt
  have LE := Lib.hid (fun (w' : World) (A' : Da w' g f) => least_any A' c hc (bitOf c) bf)
  have LI := Lib.hid (fun (w' : World) (A' : Da w' g f) => lies_any (o := c * 12) A' R 4 8 (by omega) (by omega) (by omega))
  have ht : tabT c f = if 8 ≤ f 103 then (1, liesOf f (c * 12 + 4) (c * 12 + 8), 0) else (kindOf (f (c * 12)), liesOf f (c * 12 + 4) (c * 12 + 8), (f (c * 12 + 1) + patOf (f (c * 12)) (f 103)) % 256) := rfl
  obtain ⟨a, ha⟩ : ∃ a, liesOf f (c * 12 + 4) (c * 12 + 8) = a := ⟨_, rfl⟩
  have MO := Lib.hid (fun (w' : World) (A' : Da w' g f) => moving_any (o := c * 12) A' R a (f 103) r103.1 r103.2 (by omega))
  rw [ha] at LI ht
  obtain ⟨k, hk⟩ : ∃ k, kindOf (f (c * 12)) = k := ⟨_, rfl⟩
  obtain ⟨b, hbb⟩ : ∃ b, (f (c * 12 + 1) + patOf (f (c * 12)) (f 103)) % 256 = b := ⟨_, rfl⟩
  rw [hk, hbb] at MO ht
  obtain ⟨m, hmm⟩ : ∃ m, f 103 = m := ⟨_, rfl⟩
  rw [hmm] at MO c103 ht
  have HA := Lib.hid A
  have HT := Lib.hid ht
  clear A R hb hm r103 rm ha hk hbb hmm ht
  go_enter Try.func36, Try.ntmps36
  go_wp2_with fail
  obtain ⟨W1, hW⟩ : ∃ W1, W1 = w.alloc (.cells #[.int .u8 0, .int .u32 0, .int .u8 0] 30) := ⟨_, rfl⟩
  obtain ⟨B, hB⟩ : ∃ B, B = w.heap.size := ⟨_, rfl⟩
  have BT : Hid (Blk W1 B 30 #[.int .u8 0, .int .u32 0, .int .u8 0]) := by rw [hW, hB]; exact Blk.new _ _ _
  have HB1 : Hid (Below w.heap.size w W1) := by rw [hW]; exact belowA (Below.refl _ _) _
  have hBw : Hid (w.heap.size ≤ B) := by rw [hB]; exact Nat.le_refl _
  rw [← hW, ← hB]
  have gB : g ≠ B := by omega
  clear hW hB
  refine (LE.out _ (HA.out.kept HB1.out)).mono ?_
  rintro e w2 ⟨rfl, hb2⟩
  have p103 := keepC (HB1.out.trans (hb2.mono HB1.out.size)) c103
  have pm := keepC (HB1.out.trans (hb2.mono HB1.out.size)) cm
  have HB2 := Lib.hid (HB1.out.trans (hb2.mono HB1.out.size))
  have BT2 := Lib.hid (BT.out.kept hb2)
  clear hb2 c102 c103 cm HB1 BT LE
  by_cases hs : 8 ≤ m
  · have ht := HT.out
    rw [if_pos hs] at ht
    have HT2 := Lib.hid ht
    clear ht HT MO
    go_wp2_with fail
    refine (LI.out _ (HA.out.kept HB2.out)).mono ?_
    rintro e w3 ⟨rfl, hb3⟩
    have bt := BT2.out.kept hb3
    have z0 := bt.cell 0
    have z1 := bt.cell 1
    have z2 := bt.cell 2
    have f0 := bt.frozen 0
    have f1 := bt.frozen 1
    have f2 := bt.frozen 2
    have HB3 := Lib.hid (HB2.out.trans (hb3.mono HB2.out.size))
    clear bt hb3
    go_wp2_with fail
    refine bodyPost_ret (v := trV 1 a 0) (by simp [results, Try.results36, go_sem, z0, z1, z2]) rfl ?_
    rw [HT2.out]
    exact ⟨rfl, belowS (belowS (belowS HB3.out hBw.out _) hBw.out _) hBw.out _⟩
  · have ht := HT.out
    rw [if_neg hs] at ht
    have HT2 := Lib.hid ht
    clear ht HT
    have p103 : w2.drew.cell? ⟨g, 103, none⟩ = some (.int .u8 m) := p103
    go_upto_region 6 with (fail)
    go_region_held3 (fun w' => w'.cell? ⟨g, 103, none⟩ = some (.int .u8 m))
      (first | (with_reducible exact p103) | (with_reducible exact q97) | (with_reducible exact r97) | (with_reducible exact keepSet (keepSet (keepSet r97 gB) gB) gB))
      (first
        | (go_at_call 39; refine (LI.out _ (HA.out.kept (HB2.out.drew))).mono ?_; rintro e w3 ⟨rfl, hb3⟩; have q97 := keepC hb3 p103; have HB3 := Lib.hid (HB2.out.drew.trans (hb3.mono HB2.out.size)); have BT3 := Lib.hid (BT2.out.drew.kept hb3); clear hb3)
        | (go_at_call 38; refine (MO.out _ (HA.out.kept HB3.out)).mono ?_; rintro e w4 ⟨rfl, hb4⟩; have HB4 := Lib.hid (HB3.out.trans (hb4.mono HB3.out.size)); have bt4 := BT3.out.kept hb4; have z0 := bt4.cell 0; have z1 := bt4.cell 1; have z2 := bt4.cell 2; have f0 := bt4.frozen 0; have f1 := bt4.frozen 1; have f2 := bt4.frozen 2; have r97 := keepC hb4 q97; have BT4 := Lib.hid bt4; clear hb4 bt4))
    all_goals
      go_wp2_with fail
      refine bodyPost_ret (v := trV k a b) (by simp [results, Try.results36, go_sem, z0, z1, z2]) rfl ?_
      rw [HT2.out]
      exact ⟨rfl, belowS (belowS (belowS HB4.out hBw.out _) hBw.out _) hBw.out _⟩
set_option maxHeartbeats 1000000 in
theorem next_table (A : Da w g f) (R : Rng f) (c : Nat) (hc : c < 8) (hb : f 102 = bitOf c) (hm : f (c * 12) / 64 % 2 = 0) (hw : f 101 ≠ 0) :
    Calls Try.prog 11 #[.pointer (some ⟨g, 0, none⟩)] w (Says w (.tuple #[trV (tabT c f).1 (tabT c f).2.1 (tabT c f).2.2, .bool true])) := by
  have c101 := A.cell (j := 101) (by omega)
  have t : (f 101 != 0) = true := by simpa using hw
  have hlt := A.lt
  have TN := Lib.hid (fun (w' : World) (A' : Da w' g f) => tableNext_any A' R c hc hb hm)
  obtain ⟨⟨k, a, b⟩, hk⟩ : ∃ q, tabT c f = q := ⟨_, rfl⟩
  rw [hk] at TN ⊢
  simp only at TN ⊢
  obtain ⟨y, hy⟩ : ∃ y, f 101 = y := ⟨_, rfl⟩
  rw [hy] at c101 t
  have HA := Lib.hid A
  clear A R hb hm hw hk hy
  go_enter Try.func11, Try.ntmps11
  go_wp2_with fail
  obtain ⟨W1, hW⟩ : ∃ W1, W1 = w.alloc (.cells #[.int .u8 0, .int .u32 0, .int .u8 0] 30) := ⟨_, rfl⟩
  obtain ⟨B, hB⟩ : ∃ B, B = w.heap.size := ⟨_, rfl⟩
  have BT : Hid (Blk W1 B 30 #[.int .u8 0, .int .u32 0, .int .u8 0]) := by rw [hW, hB]; exact Blk.new _ _ _
  have HB1 : Hid (Below w.heap.size w W1) := by rw [hW]; exact belowA (Below.refl _ _) _
  have hBw : Hid (w.heap.size ≤ B) := by rw [hB]; exact Nat.le_refl _
  rw [← hW, ← hB]
  clear hW hB
  refine (TN.out _ (HA.out.kept HB1.out)).mono ?_
  rintro e w2 ⟨rfl, hb2⟩
  have HB2 := Lib.hid (HB1.out.trans (hb2.mono HB1.out.size))
  have bt2 := BT.out.kept hb2
  have z0 := bt2.cell 0
  have z1 := bt2.cell 1
  have z2 := bt2.cell 2
  have f0 := bt2.frozen 0
  have f1 := bt2.frozen 1
  have f2 := bt2.frozen 2
  clear hb2 c101 HB1 BT TN bt2
  go_wp2_with fail
  exact bodyPost_ret (v := .tuple #[trV k a b, .bool true]) (by simp [results, Try.results11, go_sem, z0, z1, z2]) rfl ⟨rfl, belowS (belowS (belowS HB2.out hBw.out _) hBw.out _) hBw.out _⟩
end
end Go.Proofs.Ytkeikkkcmackeaa
