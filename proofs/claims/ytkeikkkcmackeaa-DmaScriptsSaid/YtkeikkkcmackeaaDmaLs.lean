/- The channels with tables: a byte of a line is moved; Done. Done, while tables are under way. DmaAhead, in plain words. -/
import Derived.Test.YtkeikkkcmackeaaDmaHs
namespace Go.Proofs.Ytkeikkkcmackeaa
open Go.RowKit
set_option linter.unusedVariables false
set_option linter.unusedSimpArgs false
set_option maxRecDepth 100000

def uniA (c : Nat) (f : Nat → Int) : Nat → Int := put1 (put2 f (c * 12 + 8) ((wordOf f (c * 12 + 8) + 1) % 65536)) 103 ((f 103 + 1) % 256)
def uniF (c : Nat) (f : Nat → Int) : Nat → Int :=
  if lenOf (f (c * 12)) ≤ (f 103 + 1) % 256 then (if (cntF c (uniA c f)).1 = true then endF (cntF c (uniA c f)).2 else (cntF c (uniA c f)).2) else uniA c f
theorem uniA_ne {c j : Nat} {f : Nat → Int} (h1 : j ≠ c * 12 + 8) (h2 : j ≠ c * 12 + 9) (h3 : j ≠ 103) : uniA c f j = f j := by
  unfold uniA; rw [put1_ne h3, put2_ne h1 h2]
section
variable {w : World} {g : Nat} {f : Nat → Int}
set_option maxHeartbeats 4000000 in
theorem unit_any (A : Da w g f) (R : Rng f) (c : Nat) (hc : c < 8) (hb : f 102 = bitOf c) (hm : f (c * 12) / 64 % 2 = 0) (v : Int) :
    Calls Try.prog 41 #[.pointer (some ⟨g, 0, none⟩), .int .u8 v] w (Wrote w g (uniF c f) (.tuple #[])) := by
  obtain ⟨b0, b1, bf, ba⟩ := bit_rng c hc
  have c102 := A.cell (j := 102) (by omega)
  rw [hb] at c102
  have LE := Lib.hid (fun (w' : World) (A' : Da w' g f) => least_any A' c hc (bitOf c) bf)
  have NX := Lib.hid (fun (w' : World) (A' : Da w' g f) => next_any A' R (o := c * 12) 8 (by omega) (by omega))
  have rm := R (c * 12)
  have e64 := and64 (f (c * 12)) rm.1 rm.2
  rw [hm, Int.zero_mul] at e64
  have wr := wordOf_rng R (c * 12 + 8)
  have R1 : Rng (put2 f (c * 12 + 8) ((wordOf f (c * 12 + 8) + 1) % 65536)) := R.put2 _ (by omega) (by omega)
  have r103 := R 103
  have RU : Rng (uniA c f) := R1.put1 _ (by omega) (by omega)
  have e103 : (put2 f (c * 12 + 8) ((wordOf f (c * 12 + 8) + 1) % 65536)) 103 = f 103 := put2_ne (by omega) (by omega)
  have hU : uniA c f = put1 (put2 f (c * 12 + 8) ((wordOf f (c * 12 + 8) + 1) % 65536)) 103 ((f 103 + 1) % 256) := rfl
  have hF : uniF c f = if lenOf (f (c * 12)) ≤ (f 103 + 1) % 256 then (if (cntF c (uniA c f)).1 = true then endF (cntF c (uniA c f)).2 else (cntF c (uniA c f)).2) else uniA c f := rfl
  have um : uniA c f (c * 12) = f (c * 12) := uniA_ne (by omega) (by omega) (by omega)
  have u102 : uniA c f 102 = bitOf c := (uniA_ne (by omega) (by omega) (by omega)).trans hb
  have u103 : uniA c f 103 = (f 103 + 1) % 256 := by rw [hU, put1_at, if_pos rfl]
  obtain ⟨f1, hf1⟩ : ∃ f1, put2 f (c * 12 + 8) ((wordOf f (c * 12 + 8) + 1) % 65536) = f1 := ⟨_, rfl⟩
  rw [hf1] at NX hU e103 R1
  obtain ⟨n, hn⟩ : ∃ n, f 103 = n := ⟨_, rfl⟩
  rw [hn] at hF hU e103 r103 u103
  obtain ⟨z, hz⟩ : ∃ z, (n + 1) % 256 = z := ⟨_, rfl⟩
  have z0 : 0 ≤ z := by omega
  have z1 : z ≤ 255 := by omega
  rw [hz] at hF hU u103
  have ew : IntKind.u8.wrap (n + 1) = z := by rw [IntKind.wrap_u8]; exact hz
  have CN := Lib.hid (fun (w' : World) (A' : Da w' g (uniA c f)) => counted_any A' RU c hc)
  have LG := Lib.hid (fun (w' : World) (A' : Da w' g (uniA c f)) => length_any A' RU (o := c * 12) (by omega))
  rw [um] at LG
  have h102 : (cntF c (uniA c f)).1 = true → (cntF c (uniA c f)).2 102 = 0 := fun h => by rw [cntF_102 c hc _ h, u102, ba]
  obtain ⟨⟨b, f3⟩, hcn⟩ : ∃ q, cntF c (uniA c f) = q := ⟨_, rfl⟩
  rw [hcn] at CN hF h102
  simp only at CN hF h102
  obtain ⟨fu, hfu⟩ : ∃ fu, uniA c f = fu := ⟨_, rfl⟩
  rw [hfu] at CN LG hF hU um u103
  have pr := lenOf_rng (f (c * 12))
  obtain ⟨ln, hln⟩ : ∃ ln, lenOf (f (c * 12)) = ln := ⟨_, rfl⟩
  rw [hln] at LG hF pr
  obtain ⟨p0, p1⟩ := pr
  have HU := Lib.hid hU
  have HF := Lib.hid hF
  have H103 := Lib.hid e103
  have HU3 := Lib.hid u103
  have H102 := Lib.hid h102
  have HA := Lib.hid A
  have cm0 := A.cell (j := c * 12) (by omega)
  clear A R R1 RU hU hF um u102 u103 hf1 hn hz hcn hfu hln h102 e103 hb hm rm wr r103
  go_enter Try.func41, Try.ntmps41
  go_wp2_with fail
  refine (LE.out _ HA.out).mono ?_
  rintro e w1 ⟨rfl, hb1⟩
  have A1 := Lib.hid (HA.out.kept hb1)
  have cm := keepC hb1 cm0
  have U1 := Lib.hid (Upd.ofBelow hb1 g)
  clear hb1 HA LE c102 cm0
  go_wp2_with fail
  refine (NX.out _ A1.out).mono ?_
  rintro e w2 ⟨rfl, a2, u2⟩
  have c103 := a2.cell (j := 103) (by omega)
  rw [H103.out] at c103
  have f103 := a2.frozen 103
  have a3 := a2.put1 (i := 103) (by omega) z
  rw [← HU.out] at a3
  have k103 := a3.cell (j := 103) (by omega)
  rw [HU3.out] at k103
  have A3 := Lib.hid a3
  have U3 := Lib.hid ((U1.out.trans u2).set 103 (.int .u8 z))
  clear a2 u2 a3 A1 U1 NX cm
  go_upto_region 5 with (fail)
  obtain ⟨W3, hW3⟩ : ∃ W3, W3 = w2.setCell ⟨g, 103, none⟩ (.int .u8 z) := ⟨_, rfl⟩
  rw [← hW3] at A3 U3 k103 ⊢
  clear hW3 c103 f103
  by_cases hl : ln ≤ z
  · have hff := HF.out
    rw [if_pos hl] at hff
    have HF2 := Lib.hid hff
    clear hff HF
    go_cut [44] from 32 to 44 (fun s wx => s = .bool b ∧ Da wx g f3 ∧ Upd W3 g wx)
    case first =>
      obtain ⟨wd, hwd⟩ : ∃ wd, wd = W3.drew := ⟨_, rfl⟩
      have k103d : wd.cell? ⟨g, 103, none⟩ = some (.int .u8 z) := by rw [hwd]; exact k103
      have AD : Hid (Da wd g fu) := by rw [hwd]; exact A3.out
      have UD : Hid (Upd W3 g wd) := by rw [hwd]; exact (Upd.refl _ _).drew
      have CB2 := LG.out _ AD.out
      have CC2 := Lib.hid (CN.out _ AD.out)
      clear k103
      refine wp_region_still_tail 11 (by kernel_rfl) (by kernel_rfl) ?_
      change wpStill _ _ (World.drew _) (fun a' => wpList _ _ _ _ a' (World.drew _)) _ _
      rw [← hwd]
      clear hwd
      simp only [List.take_succ_cons, List.take_zero, List.drop_succ_cons, List.drop_zero]
      repeat still_step
      still_call CB2
      repeat still_step
      refine wpStill_nil ?_
      go_wp2_with fail
      refine CC2.out.mono ?_
      rintro e w4 ⟨rfl, a4, u4⟩
      have A4 := Lib.hid a4
      have U4 := Lib.hid (UD.out.trans u4)
      clear a4 u4
      go_wp2_with fail
      go_meet
      exact ⟨rfl, A4.out, U4.out⟩
    case rest =>
      obtain ⟨rfl, a4, u4⟩ := hcut
      have A4 := Lib.hid a4
      have U4 := Lib.hid (U3.out.trans u4)
      cases b
      · have hff := HF2.out
        rw [if_neg (by decide)] at hff
        have HF3 := Lib.hid hff
        clear a4 u4 k103 A3 U3 hff HF2
        go_wp2_with fail
        go_end0
        rw [HF3.out]
        exact ⟨rfl, A4.out, U4.out⟩
      · have hff := HF2.out
        rw [if_pos rfl] at hff
        have HF3 := Lib.hid hff
        have BG := Lib.hid (begin_none a4 (H102.out rfl))
        clear a4 u4 k103 A3 U3 hff HF2
        go_wp2_with fail
        refine BG.out.mono ?_
        rintro e w5 ⟨rfl, a5, u5⟩
        have A5 := Lib.hid a5
        have U5 := Lib.hid (U4.out.trans u5)
        clear a5 u5
        go_wp2_with fail
        go_end0
        rw [HF3.out]
        exact ⟨rfl, A5.out, U5.out⟩
  · have hff := HF.out
    rw [if_neg hl] at hff
    have HF2 := Lib.hid hff
    clear hff HF
    go_cut [44] from 32 to 44 (fun s wx => s = .bool false ∧ Da wx g fu ∧ Upd W3 g wx)
    case first =>
      obtain ⟨wd, hwd⟩ : ∃ wd, wd = W3.drew := ⟨_, rfl⟩
      have k103d : wd.cell? ⟨g, 103, none⟩ = some (.int .u8 z) := by rw [hwd]; exact k103
      have AD : Hid (Da wd g fu) := by rw [hwd]; exact A3.out
      have UD : Hid (Upd W3 g wd) := by rw [hwd]; exact (Upd.refl _ _).drew
      have CB2 := LG.out _ AD.out
      have CC2 := Lib.hid (CN.out _ AD.out)
      clear k103
      refine wp_region_still_tail 11 (by kernel_rfl) (by kernel_rfl) ?_
      change wpStill _ _ (World.drew _) (fun a' => wpList _ _ _ _ a' (World.drew _)) _ _
      rw [← hwd]
      clear hwd
      simp only [List.take_succ_cons, List.take_zero, List.drop_succ_cons, List.drop_zero]
      repeat still_step
      still_call CB2
      repeat still_step
      refine wpStill_nil ?_
      go_wp2_with fail
      go_meet
      exact ⟨rfl, AD.out, UD.out⟩
    case rest =>
      obtain ⟨rfl, a4, u4⟩ := hcut
      have A4 := Lib.hid a4
      have U4 := Lib.hid (U3.out.trans u4)
      clear a4 u4 k103 A3 U3
      go_wp2_with fail
      go_end0
      rw [HF2.out]
      exact ⟨rfl, A4.out, U4.out⟩
end
end Go.Proofs.Ytkeikkkcmackeaa

namespace Go.Proofs.Ytkeikkkcmackeaa
open Go.RowKit
set_option linter.unusedVariables false
set_option linter.unusedSimpArgs false
set_option maxRecDepth 100000
section
variable {w : World} {g : Nat} {f : Nat → Int}
set_option maxHeartbeats 1000000 in
theorem done_entry (A : Da w g f) (R : Rng f) (c : Nat) (hc : c < 8) (hb : f 102 = bitOf c) (hs : f 103 = 8) (hm : f (c * 12) / 64 % 2 = 0) (hw : f 101 ≠ 0) (v : Int) :
    Calls Try.prog 14 #[.pointer (some ⟨g, 0, none⟩), .int .u8 v] w (Wrote w g (entF c v f) (.tuple #[])) := by
  have c101 := A.cell (j := 101) (by omega)
  have c103 := A.cell (j := 103) (by omega)
  rw [hs] at c103
  have t : (f 101 == 0) = false := by simpa using hw
  obtain ⟨y, hy⟩ : ∃ y, f 101 = y := ⟨_, rfl⟩
  rw [hy] at c101 t
  have MD := Lib.hid (entry_any A R c hc hb hs hm v)
  clear A R hb hs hm hw hy
  go_enter Try.func14, Try.ntmps14
  go_wp2_with fail
  refine MD.out.mono ?_
  rintro e w2 ⟨rfl, ha, hu⟩
  have HA := Lib.hid ha
  have HU := Lib.hid hu
  clear ha hu
  go_wp2_with fail
  go_end0
  exact ⟨rfl, HA.out, HU.out⟩
set_option maxHeartbeats 1000000 in
theorem done_unit (A : Da w g f) (R : Rng f) (c : Nat) (hc : c < 8) (hb : f 102 = bitOf c) (hs : f 103 < 8) (hm : f (c * 12) / 64 % 2 = 0) (hw : f 101 ≠ 0) (v : Int) :
    Calls Try.prog 14 #[.pointer (some ⟨g, 0, none⟩), .int .u8 v] w (Wrote w g (uniF c f) (.tuple #[])) := by
  have c101 := A.cell (j := 101) (by omega)
  have c103 := A.cell (j := 103) (by omega)
  have t2 : ¬ 8 ≤ f 103 := by omega
  have t : (f 101 == 0) = false := by simpa using hw
  obtain ⟨y, hy⟩ : ∃ y, f 101 = y := ⟨_, rfl⟩
  obtain ⟨s, hs'⟩ : ∃ y, f 103 = y := ⟨_, rfl⟩
  rw [hy] at c101 t
  rw [hs'] at c103 t2
  have MD := Lib.hid (unit_any A R c hc hb hm v)
  clear A R hb hs hm hw hy hs'
  go_enter Try.func14, Try.ntmps14
  go_wp2_with fail
  refine MD.out.mono ?_
  rintro e w2 ⟨rfl, ha, hu⟩
  have HA := Lib.hid ha
  have HU := Lib.hid hu
  clear ha hu
  go_wp2_with fail
  go_end0
  exact ⟨rfl, HA.out, HU.out⟩
end
end Go.Proofs.Ytkeikkkcmackeaa

namespace Go.Proofs.Ytkeikkkcmackeaa
set_option linter.unusedVariables false
set_option linter.unusedSimpArgs false

theorem u8_or_rng (x y : Int) (x0 : 0 ≤ x) (x1 : x ≤ 255) (y0 : 0 ≤ y) (y1 : y ≤ 255) : 0 ≤ bits .or .u8 x y ∧ bits .or .u8 x y ≤ 255 := by
  have := u8_or_nat x.toNat y.toNat (by omega) (by omega)
  rw [Int.toNat_of_nonneg x0, Int.toNat_of_nonneg y0] at this
  rw [this]
  have : x.toNat ||| y.toNat < 2 ^ 8 := Nat.or_lt_two_pow (by omega) (by omega)
  omega
theorem pt_rng (x y : Int) (is : Bool) (x0 : 0 ≤ x) (x1 : x ≤ 255) (y0 : 0 ≤ y) (y1 : y ≤ 255) : 0 ≤ pt x y is ∧ pt x y is ≤ 255 := by
  have h := u8_andNot_rng x y x0 x1 y0 y1
  unfold pt
  cases is
  · simpa using h
  · simpa using u8_or_rng _ y h.1 h.2 y0 y1
theorem endF_rng {f : Nat → Int} (R : Rng f) : Rng (endF f) := (R.put1 _ (by omega) (by omega)).put1 _ (by omega) (by omega)
theorem cntF_rng {f : Nat → Int} (R : Rng f) (c : Nat) (hc : c < 8) : Rng (cntF c f).2 := by
  obtain ⟨b0, b1, _, _⟩ := bit_rng c hc
  have RA : Rng (cntA c f) := R.put1 _ (by omega) (by omega)
  have h100 := RA 100
  have hp := pt_rng ((cntA c f) 100) (bitOf c) (bits .and .u8 ((cntA c f) (c * 12 + 10)) 128 != 0) h100.1 h100.2 b0 b1
  have RB : Rng (cntB c (cntA c f)) := RA.put1 _ hp.1 hp.2
  unfold cntF cntC
  split
  · exact RB.put1 _ (by omega) (by omega)
  · have h := RB 102
    have := u8_andNot_rng _ (bitOf c) h.1 h.2 b0 b1
    exact RB.put1 _ this.1 this.2
theorem frmF_rng {f : Nat → Int} (R : Rng f) (c : Nat) (hc : c < 8) : Rng (frmF c f) := by
  obtain ⟨b0, b1, _, _⟩ := bit_rng c hc
  have h := R 99
  have hp := pt_rng (f 99) (bitOf c) false h.1 h.2 b0 b1
  have R2 : Rng (put1 (put1 f 103 0) 99 (pt (f 99) (bitOf c) false)) := (R.put1 _ (by omega) (by omega)).put1 _ hp.1 hp.2
  have hw := wordOf_rng R2 (c * 12 + 2)
  exact (R2.put2 _ hw.1 hw.2).put1 _ (by omega) (by omega)
theorem frameF_rng {f : Nat → Int} (R : Rng f) (c : Nat) (hc : c < 8) : Rng (frameF c f) := by
  obtain ⟨b0, b1, _, _⟩ := bit_rng c hc
  exact frmF_rng ((R.put1 _ (by omega) (by omega)).put1 _ b0 b1) c hc
theorem linF_rng {f : Nat → Int} (R : Rng f) (c : Nat) (hc : c < 8) : Rng (linF c f) := by
  have R1 : Rng (put1 f 103 0) := R.put1 _ (by omega) (by omega)
  unfold linF
  split
  · split
    · exact endF_rng (cntF_rng R1 c hc)
    · exact cntF_rng R1 c hc
  · exact R1
theorem uniF_rng {f : Nat → Int} (R : Rng f) (c : Nat) (hc : c < 8) : Rng (uniF c f) := by
  have hw := wordOf_rng R (c * 12 + 8)
  have RU : Rng (uniA c f) := (R.put2 _ (by omega) (by omega)).put1 _ (by omega) (by omega)
  unfold uniF
  split
  · split
    · exact endF_rng (cntF_rng RU c hc)
    · exact cntF_rng RU c hc
  · exact RU
theorem entF_rng {f : Nat → Int} (R : Rng f) (c : Nat) (hc : c < 8) (v : Int) (v0 : 0 ≤ v) (v1 : v ≤ 255) : Rng (entF c v f) := by
  obtain ⟨b0, b1, _, _⟩ := bit_rng c hc
  have hw := wordOf_rng R (c * 12 + 8)
  have RE : Rng (entA c v f) := (R.put2 _ (by omega) (by omega)).put1 _ v0 v1
  have h99 := R 99
  have h100 := R 100
  have o1 := u8_or_rng (f 99) (bitOf c) h99.1 h99.2 b0 b1
  have o2 := u8_or_rng (f 100) (bitOf c) h100.1 h100.2 b0 b1
  unfold entF
  refine endF_rng (Rng.put1 ?_ _ (by omega) (by omega))
  split
  · exact RE.put1 _ o1.1 o1.2
  · exact RE.put1 _ o2.1 o2.2

/-- Channel 1 with its table. -/
structure Tb (f : Nat → Int) (word before way stage counter does ended : Int) : Prop where
  r : Rng f
  hm : f 12 = 0
  hp : f 13 = 0
  hb : f 16 = 2
  ht : wordOf f 20 = word
  hc : f 22 = counter
  htb : f 98 = 2
  hen : f 99 = ended
  hds : f 100 = does
  hwy : f 101 = way
  hbf : f 102 = before
  hst : f 103 = stage
/-- What tables leave alone. -/
def Keep (f f' : Nat → Int) : Prop := ∀ j, j < 20 ∨ (22 < j ∧ j < 99) → f' j = f j
theorem bit1 : bitOf 1 = 2 := rfl
theorem Mv.keep {m tp bank at_ : Int} {n k : Nat} {f f' : Nat → Int} (h : Mv 0 m tp bank at_ n k f) (K : Keep f f') (R : Rng f') (hw : f' 101 = 0) : Mv 0 m tp bank at_ n k f' := by
  obtain ⟨r, h1, h2, h3, h4, h5, h6, h7, h8⟩ := h
  have w2 : wordOf f' (0 * 12 + 2) = wordOf f (0 * 12 + 2) := by unfold wordOf; rw [K _ (by omega), K _ (by omega)]
  have w5 : wordOf f' (0 * 12 + 5) = wordOf f (0 * 12 + 5) := by unfold wordOf; rw [K _ (by omega), K _ (by omega)]
  exact ⟨R, (K _ (by omega)).trans h1, (K _ (by omega)).trans h2, (K _ (by omega)).trans h3, w2.trans h4, w5.trans h5, fun h => (K _ (by omega)).trans (h6 h), (K _ (by omega)).trans h7, hw⟩
theorem doneM_ne {c j : Nat} (hc : c < 8) {f : Nat → Int} (h1 : j ≠ 96) (h2 : j ≠ 97) (h3 : j ≠ c * 12 + 2) (h4 : j ≠ c * 12 + 3) (h5 : j ≠ c * 12 + 5) (h6 : j ≠ c * 12 + 6) : doneM c f j = f j := by
  have e : mvC (mvB (c * 12) (mvA (c * 12) f)) j = f j := by
    unfold mvC mvB
    rw [put1_ne h2, put2_ne h5 h6, mvA_ne h3 h4]
  unfold doneM mvD
  split
  · rw [put1_ne h2, put1_ne h1, e]
  · exact e
theorem Tb.moved {f : Nat → Int} {word before way stage counter does ended : Int} (h : Tb f word before way stage counter does ended) (R : Rng (doneM 0 f)) : Tb (doneM 0 f) word before way stage counter does ended := by
  obtain ⟨_, h1, h2, h3, h4, h5, h6, h7, h8, h9, h10, h11⟩ := h
  have D := fun (j : Nat) (h : j ≠ 96 ∧ j ≠ 97 ∧ 6 < j) => (doneM_ne (c := 0) (f := f) (by omega) h.1 h.2.1 (by omega) (by omega) (by omega) (by omega) : doneM 0 f j = f j)
  have w : wordOf (doneM 0 f) 20 = wordOf f 20 := by unfold wordOf; rw [D _ (by omega), D _ (by omega)]
  exact ⟨R, (D _ (by omega)).trans h1, (D _ (by omega)).trans h2, (D _ (by omega)).trans h3, w.trans h4, (D _ (by omega)).trans h5, (D _ (by omega)).trans h6, (D _ (by omega)).trans h7, (D _ (by omega)).trans h8, (D _ (by omega)).trans h9, (D _ (by omega)).trans h10, (D _ (by omega)).trans h11⟩
theorem Tb.line {f : Nat → Int} (h : Tb f 1 0 0 0 129 2 0) : Tb (linF 1 (lineA (bitOf 1) f)) 1 2 2 0 129 2 0 ∧ Keep f (linF 1 (lineA (bitOf 1) f)) := by
  obtain ⟨r, h1, h2, h3, h4, h5, h6, h7, h8, h9, h10, h11⟩ := h
  have e : (lineA (bitOf 1) f) 100 = 2 := by unfold lineA; rw [put1_ne (by decide), put1_ne (by decide), h8]
  have hl : linF 1 (lineA (bitOf 1) f) = put1 (put1 (put1 f 101 2) 102 2) 103 0 := by
    unfold linF
    rw [e, if_neg (by decide +kernel)]
    rfl
  have R1 : Rng (lineA (bitOf 1) f) := (r.put1 _ (by omega) (by omega)).put1 _ (by decide) (by decide)
  have RL := linF_rng R1 1 (by omega)
  rw [hl] at RL ⊢
  refine ⟨⟨RL, ?_, ?_, ?_, ?_, ?_, ?_, ?_, ?_, ?_, ?_, ?_⟩, fun j hj => by rw [put1_ne (by omega), put1_ne (by omega), put1_ne (by omega)]⟩
  · exact h1
  · exact h2
  · exact h3
  · exact h4
  · exact h5
  · exact h6
  · exact h7
  · exact h8
  · rfl
  · rfl
  · rfl
theorem Tb.unit {f : Nat → Int} (h : Tb f 1 2 2 0 129 2 0) : Tb (uniF 1 f) 2 2 2 8 128 2 0 ∧ Keep f (uniF 1 f) := by
  have RU := uniF_rng h.r 1 (by omega)
  obtain ⟨r, h1, h2, h3, h4, h5, h6, h7, h8, h9, h10, h11⟩ := h
  have hA : uniA 1 f = put1 (put2 f 20 2) 103 1 := by
    unfold uniA
    rw [show 1 * 12 + 8 = 20 by rfl, h4, h11]
    rfl
  have hcA : cntA 1 (uniA 1 f) = put1 (uniA 1 f) 22 128 := by
    unfold cntA
    rw [show 1 * 12 + 10 = 22 by rfl, hA, put1_ne (by decide), put2_ne (by decide) (by decide), h5]
    rfl
  have hcB : cntB 1 (cntA 1 (uniA 1 f)) = put1 (cntA 1 (uniA 1 f)) 100 2 := by
    have q1 : put1 (uniA 1 f) 22 128 22 = 128 := by rw [put1_at, if_pos rfl]
    have q2 : put1 (uniA 1 f) 22 128 100 = 2 := by rw [put1_ne (show 100 ≠ 22 by decide), hA, put1_ne (show 100 ≠ 103 by decide), put2_ne (by decide) (by decide), h8]
    unfold cntB
    rw [show 1 * 12 + 10 = 22 by rfl, hcA, q1, q2]
    have q3 : pt 2 (bitOf 1) (bits .and .u8 128 128 != 0) = 2 := by decide +kernel
    rw [q3]
  have hcC : cntF 1 (uniA 1 f) = (false, put1 (put1 (put1 (put1 (put2 f 20 2) 103 1) 22 128) 100 2) 103 8) := by
    unfold cntF cntC
    rw [hcB, hcA, show 1 * 12 + 10 = 22 by rfl, put1_ne (show 22 ≠ 100 by decide), put1_at, if_pos rfl, if_pos (by decide), hA]
  have hU : uniF 1 f = put1 (put1 (put1 (put1 (put2 f 20 2) 103 1) 22 128) 100 2) 103 8 := by
    unfold uniF
    rw [show 1 * 12 = 12 by rfl, h1, h11, if_pos (by decide), hcC, if_neg Bool.false_ne_true]
  rw [hU] at RU ⊢
  refine ⟨⟨RU, ?_, ?_, ?_, ?_, ?_, ?_, ?_, ?_, ?_, ?_, ?_⟩, fun j hj => by rw [put1_ne (by omega), put1_ne (by omega), put1_ne (by omega), put1_ne (by omega), put2_ne (by omega) (by omega)]⟩
  · exact h1
  · exact h2
  · exact h3
  · rfl
  · rfl
  · exact h6
  · exact h7
  · rfl
  · exact h9
  · exact h10
  · rfl
theorem Tb.last {f : Nat → Int} (h : Tb f 2 2 2 8 128 2 0) : Rng (entF 1 0 f) ∧ (entF 1 0 f) 101 = 0 ∧ Keep f (entF 1 0 f) := by
  have RU := entF_rng h.r 1 (by omega) 0 (by omega) (by omega)
  refine ⟨RU, rfl, fun j hj => ?_⟩
  unfold entF endF
  rw [put1_ne (by omega), put1_ne (by omega), put1_ne (by omega), if_pos rfl, put1_ne (by omega), entA_ne (by omega) (by omega) (by omega)]
theorem Tb.next1 {f : Nat → Int} (h : Tb f 1 2 2 0 129 2 0) : tabT 1 f = (2, 131073, 0) := by
  unfold tabT liesOf
  rw [h.hst, if_neg (by decide), show 1 * 12 = 12 by rfl, show 12 + 4 = 16 by rfl, show 12 + 8 = 20 by rfl, show 12 + 1 = 13 by rfl, h.hm, h.hb, h.ht, h.hp]
  rfl
theorem Tb.next2 {f : Nat → Int} (h : Tb f 2 2 2 8 128 2 0) : tabT 1 f = (1, 131074, 0) := by
  unfold tabT liesOf
  rw [h.hst, if_pos (by decide), show 1 * 12 = 12 by rfl, show 12 + 4 = 16 by rfl, show 12 + 8 = 20 by rfl, h.hb, h.ht]
  rfl

/-- How DmaAhead begins. -/
def ahA (n : Int) : Nat → Int := put1 (put1 (put1 (put1 (put1 (fun _ => 0) (0 * 12 + 4) 1) (0 * 12 + 5) (n % 256)) (0 * 12 + 6) (n / 256)) (1 * 12 + 4) 2) 98 2
theorem ahA_rng (n : Int) (n0 : 0 ≤ n) (n1 : n ≤ 65535) : Rng (ahA n) :=
  ((((rng_zero.put1 _ (by omega) (by omega)).put1 _ (by omega) (by omega)).put1 _ (by omega) (by omega)).put1 _ (by omega) (by omega)).put1 _ (by omega) (by omega)
theorem ahB_is (n : Int) (n0 : 0 ≤ n) (n1 : n ≤ 65535) : Rng (frameF 1 (ahA n)) ∧ (frameF 1 (ahA n)) 102 = 2 ∧ (frameF 1 (ahA n)) 103 = 8 ∧ (frameF 1 (ahA n)) 12 = 0 ∧ (frameF 1 (ahA n)) 101 = 1 :=
  ⟨frameF_rng (ahA_rng n n0 n1) 1 (by omega), rfl, rfl, rfl, rfl⟩
theorem ahC_is (n : Nat) (n0 : 0 < n) (n1 : n < 65536) : (entF 1 129 (frameF 1 (ahA n))) 96 = 0 ∧ Tb (put1 (put1 (entF 1 129 (frameF 1 (ahA n))) 97 0) 96 1) 1 0 0 0 129 2 0 ∧ Mv 0 0 0 1 0 n 0 (put1 (put1 (entF 1 129 (frameF 1 (ahA n))) 97 0) 96 1) := by
  have R := entF_rng (ahB_is n (by omega) (by omega)).1 1 (by omega) 129 (by omega) (by omega)
  have R2 : Rng (put1 (put1 (entF 1 129 (frameF 1 (ahA n))) 97 0) 96 1) := (R.put1 _ (by omega) (by omega)).put1 _ (by omega) (by omega)
  have h99 : pt ((put1 (put1 (ahA n) 101 1) 102 (bitOf 1)) 99) (bitOf 1) false = 0 := by
    rw [show (put1 (put1 (ahA n) 101 1) 102 (bitOf 1)) 99 = 0 from rfl]
    decide +kernel
  have h100 : bits .or .u8 ((frameF 1 (ahA n)) 100) (bitOf 1) = 2 := by
    rw [show (frameF 1 (ahA n)) 100 = 0 from rfl, bit1]
    decide +kernel
  refine ⟨rfl, ⟨R2, rfl, rfl, rfl, rfl, rfl, rfl, h99, h100, rfl, rfl, rfl⟩, ?_⟩
  refine Mv.init (c := 0) (count := n) (by omega) R rfl rfl rfl rfl ?_ rfl n (Or.inr ⟨rfl, n0, n1⟩)
  show (n : Int) % 256 + (n : Int) / 256 * 256 = n
  omega
end Go.Proofs.Ytkeikkkcmackeaa
