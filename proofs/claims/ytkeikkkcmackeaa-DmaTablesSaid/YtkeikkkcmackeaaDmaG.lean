/- The channels with tables: one channel of them at a time, none indirect. -/
import Derived.Test.YtkeikkkcmackeaaDmaF
namespace Go.Proofs.Ytkeikkkcmackeaa
open Go.RowKit
set_option linter.unusedVariables false
set_option linter.unusedSimpArgs false
set_option maxRecDepth 100000

/-- A bit put. -/
def pt (x b : Int) (is : Bool) : Int := if is then bits .or .u8 (bits .andNot .u8 x b) b else bits .andNot .u8 x b
theorem u8_andNot_rng (x y : Int) (x0 : 0 ≤ x) (x1 : x ≤ 255) (y0 : 0 ≤ y) (y1 : y ≤ 255) : 0 ≤ bits .andNot .u8 x y ∧ bits .andNot .u8 x y ≤ 255 := by
  have := u8_andNot_nat x.toNat y.toNat (by omega) (by omega)
  rw [Int.toNat_of_nonneg x0, Int.toNat_of_nonneg y0] at this
  rw [this]
  have : x.toNat &&& (255 - y.toNat) ≤ x.toNat := Nat.and_le_left
  omega

section
variable {w : World} {g : Nat} {f : Nat → Int}
set_option maxHeartbeats 1000000 in
theorem put_any (A : Da w g f) (i : Nat) (hi : i < 104) (b : Int) (is : Bool) :
    Calls Try.prog 73 #[.pointer (some ⟨g, i, none⟩), .int .u8 b, .bool is] w (Wrote w g (put1 f i (pt (f i) b is)) (.tuple #[])) := by
  have c := A.cell (j := i) hi
  have fr := A.frozen i
  obtain ⟨x, hx⟩ : ∃ x, f i = x := ⟨_, rfl⟩
  rw [hx] at c ⊢
  have HA := Lib.hid A
  clear A hx
  unfold pt
  obtain ⟨y, hy⟩ : ∃ y, bits .andNot .u8 x b = y := ⟨_, rfl⟩
  cases is
  · rw [hy]
    go_enter Try.func73, Try.ntmps73
    go_wp2_with fail
    go_end0
    exact ⟨rfl, HA.out.put1 hi _, (Upd.refl _ _).set _ _⟩
  · rw [hy]
    have c2 : (w.setCell ⟨g, i, none⟩ (.int .u8 y)).cell? ⟨g, i, none⟩ = some (.int .u8 y) := by
      have := (HA.out.put1 hi y).cell (j := i) hi
      rw [this]; unfold put1; rw [if_pos rfl]
    have fr2 : (w.setCell ⟨g, i, none⟩ (.int .u8 y)).frozen? ⟨g, i, none⟩ = false := (HA.out.put1 hi y).frozen i
    go_enter Try.func73, Try.ntmps73
    go_wp2_with fail
    go_end0
    have a2 := (HA.out.put1 hi y).put1 hi (bits .or .u8 y b)
    have e : put1 (put1 f i y) i (bits .or .u8 y b) = put1 f i (bits .or .u8 y b) := by
      funext j; unfold put1; split <;> rfl
    rw [e] at a2
    exact ⟨rfl, a2, ((Upd.refl _ _).set _ _).set _ _⟩

/-- A line is over. -/
def cntA (c : Nat) (f : Nat → Int) : Nat → Int := put1 f (c * 12 + 10) ((f (c * 12 + 10) - 1) % 256)
def cntB (c : Nat) (f : Nat → Int) : Nat → Int := put1 f 100 (pt (f 100) (bitOf c) (bits .and .u8 (f (c * 12 + 10)) 128 != 0))
def cntC (c : Nat) (f : Nat → Int) : Bool × (Nat → Int) := if f (c * 12 + 10) % 128 = 0 then (false, put1 f 103 8) else (true, put1 f 102 (bits .andNot .u8 (f 102) (bitOf c)))
def cntF (c : Nat) (f : Nat → Int) : Bool × (Nat → Int) := cntC c (cntB c (cntA c f))
theorem and127 (m : Int) (h0 : 0 ≤ m) (h1 : m ≤ 255) : bits .and .u8 m 127 = m % 128 := byte_fact (P := fun m => bits .and .u8 m 127 = m % 128) (by decide +kernel) m h0 h1
theorem and64 (m : Int) (h0 : 0 ≤ m) (h1 : m ≤ 255) : bits .and .u8 m 64 = m / 64 % 2 * 64 := byte_fact (P := fun m => bits .and .u8 m 64 = m / 64 % 2 * 64) (by decide +kernel) m h0 h1

set_option maxHeartbeats 2000000 in
theorem counted_any (A : Da w g f) (R : Rng f) (c : Nat) (hc : c < 8) :
    Calls Try.prog 72 #[.pointer (some ⟨g, 0, none⟩), chP g (c * 12), .int .u8 (bitOf c)] w (Wrote w g (cntF c f).2 (.bool (cntF c f).1)) := by
  have c10 := A.cell (j := c * 12 + 10) (by omega)
  have f10 := A.frozen (c * 12 + 10)
  have r10 := R (c * 12 + 10)
  have ha : cntA c f = put1 f (c * 12 + 10) ((f (c * 12 + 10) - 1) % 256) := rfl
  have RA : Rng (cntA c f) := by rw [ha]; exact R.put1 _ (by omega) (by omega)
  have a1 := A.put1 (i := c * 12 + 10) (by omega) ((f (c * 12 + 10) - 1) % 256)
  rw [← ha] at a1
  have e10 : (cntA c f) (c * 12 + 10) = (f (c * 12 + 10) - 1) % 256 := by rw [ha]; unfold put1; rw [if_pos rfl]
  obtain ⟨z, hz⟩ : ∃ z, (f (c * 12 + 10) - 1) % 256 = z := ⟨_, rfl⟩
  have z0 : 0 ≤ z := by omega
  have z1 : z ≤ 255 := by omega
  have ew : IntKind.u8.wrap (f (c * 12 + 10) - 1) = z := by rw [IntKind.wrap_u8]; exact hz
  rw [hz] at a1 e10
  obtain ⟨fa, hfa⟩ : ∃ fa, cntA c f = fa := ⟨_, rfl⟩
  rw [hfa] at RA a1 e10
  have A1 := Lib.hid a1
  obtain ⟨q, hq⟩ : ∃ q : Bool, (bits .and .u8 z 128 != 0) = q := ⟨_, rfl⟩
  have PU := Lib.hid (fun (w' : World) (A' : Da w' g fa) => put_any A' 100 (by omega) (bitOf c) q)
  have hb : cntB c fa = put1 fa 100 (pt (fa 100) (bitOf c) q) := by unfold cntB; rw [e10, hq]
  rw [← hb] at PU
  have eb10 : (cntB c fa) (c * 12 + 10) = z := by rw [hb]; unfold put1; rw [if_neg (by omega)]; exact e10
  obtain ⟨fb, hfb⟩ : ∃ fb, cntB c fa = fb := ⟨_, rfl⟩
  rw [hfb] at PU eb10
  have HF : Hid (cntF c f = cntC c fb) := by unfold cntF; rw [hfa, hfb]; exact rfl
  have hz1 : (w.setCell ⟨g, c * 12 + 10, none⟩ (.int .u8 z)).cell? ⟨g, c * 12 + 10, none⟩ = some (.int .u8 z) := by
    have := a1.cell (j := c * 12 + 10) (by omega)
    rwa [e10] at this
  have e127 := and127 z z0 z1
  have HE := Lib.hid eb10
  have HE0 := Lib.hid e10
  have HL := Lib.hid A.lt
  clear A R r10 ha RA a1 e10 hz hfa hb eb10 hfb
  go_enter Try.func72, Try.ntmps72
  go_upto_region 1 with (fail)
  go_cut [] from 7 to 13 (fun wx => Da wx g fa ∧ Upd w g wx)
  case first =>
    go_region_with (fail)
    all_goals
      go_wp2_with fail
      go_meet
      exact ⟨A1.out, ((Upd.refl _ _).set _ _).drew⟩
  case rest =>
    obtain ⟨a1, u1⟩ := hcut
    have c10' := a1.cell (j := c * 12 + 10) (by omega)
    rw [HE0.out] at c10'
    have A2 := Lib.hid a1
    have U2 := Lib.hid u1
    clear a1 u1 A1 c10 f10 ew hz1 HL
    go_upto_region 2 with (fail)
    go_cut [] from 14 to 24 (fun wx => Da wx g fb ∧ Upd wc g wx)
    case first =>
      obtain ⟨wd, hwd⟩ : ∃ wd, wd = wc.drew := ⟨_, rfl⟩
      have c10 : wd.cell? ⟨g, c * 12 + 10, none⟩ = some (.int .u8 z) := by rw [hwd]; exact c10'
      have AD : Hid (Da wd g fa) := by rw [hwd]; exact A2.out
      have UD : Hid (Upd wc g wd) := by rw [hwd]; exact (Upd.refl _ _).drew
      refine wp_region_still_tail 10 (by kernel_rfl) (by kernel_rfl) ?_
      change wpStill _ _ (World.drew _) (fun a' => wpList _ _ _ _ a' (World.drew _)) _ _
      rw [← hwd]
      clear hwd
      simp only [List.take_succ_cons, List.take_zero, List.drop_succ_cons, List.drop_zero]
      repeat still_step
      refine wpStill_nil ?_
      go_wp2_with fail
      refine (PU.out _ AD.out).mono ?_
      rintro e w3 ⟨rfl, ha3, hu3⟩
      go_wp2_with fail
      go_meet
      exact ⟨ha3, UD.out.trans hu3⟩
    case rest =>
      obtain ⟨ha3, hu3⟩ := hcut
      have A3 := Lib.hid ha3
      have U3 := Lib.hid (U2.out.trans hu3)
      have c10 := ha3.cell (j := c * 12 + 10) (by omega)
      rw [HE.out] at c10
      have c103 := ha3.cell (j := 103) (by omega)
      have f103 := ha3.frozen 103
      have c102 := ha3.cell (j := 102) (by omega)
      have f102 := ha3.frozen 102
      clear ha3 hu3 A2 U2 c10' PU
      by_cases hz0 : z % 128 = 0
      · have hcf : cntC c fb = (false, put1 fb 103 8) := by unfold cntC; rw [HE.out, if_pos hz0]
        have HR := Lib.hid (HF.out.trans hcf)
        rw [hz0] at e127
        clear hcf hz0
        go_wp2_with fail
        go_ret
        rw [HR.out]
        exact ⟨rfl, A3.out.put1 (by omega) _, U3.out.set _ _⟩
      · have hcf : cntC c fb = (true, put1 fb 102 (bits .andNot .u8 (fb 102) (bitOf c))) := by unfold cntC; rw [HE.out, if_neg hz0]
        have HR := Lib.hid (HF.out.trans hcf)
        have t : (z % 128 == 0) = false := by simpa using hz0
        obtain ⟨y, hy⟩ : ∃ y, bits .andNot .u8 (fb 102) (bitOf c) = y := ⟨_, rfl⟩
        rw [hy] at HR
        clear hcf
        go_wp2_with fail
        go_ret
        rw [HR.out]
        exact ⟨rfl, A3.out.put1 (by omega) _, U3.out.set _ _⟩
end
end Go.Proofs.Ytkeikkkcmackeaa
