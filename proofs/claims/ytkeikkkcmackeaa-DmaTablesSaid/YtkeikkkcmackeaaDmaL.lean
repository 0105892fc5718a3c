/- The channels with tables: a byte of a line is moved; Done. -/
import Derived.Test.YtkeikkkcmackeaaDmaK
namespace Go.Proofs.Ytkeikkkcmackeaa
open Go.RowKit
set_option linter.unusedVariables false
set_option linter.unusedSimpArgs false
set_option maxRecDepth 100000

def uniA (c : Nat) (f : Nat → Int) : Nat → Int := put1 (put2 f (c * 12 + 8) ((wordOf f (c * 12 + 8) + 1) % 65536)) 103 ((f 103 + 1) % 256)
def uniF (c : Nat) (f : Nat → Int) : Nat → Int :=
  if lenOf (f (c * 12)) ≤ (f 103 + 1) % 256 then (if (cntF c (uniA c f)).1 = true then endF (cntF c (uniA c f)).2 else (cntF c (uniA c f)).2) else uniA c f
theorem uniA_ne {c j : Nat} {f : Nat → Int} (h1 : j ≠ c * 12 + 8) (h2 : j ≠ c * 12 + 9) (h3 : j ≠ 103) : uniA c f j = f j := by
  unfold uniA; rw [put1_ne h3, put2_ne h1 h2]
section
variable {w : World} {g : Nat} {f : Nat → Int}
set_option maxHeartbeats 4000000 in
theorem unit_any (A : Da w g f) (R : Rng f) (c : Nat) (hc : c < 8) (hb : f 102 = bitOf c) (hm : f (c * 12) / 64 % 2 = 0) (v : Int) :
    Calls Try.prog 41 #[.pointer (some ⟨g, 0, none⟩), .int .u8 v] w (Wrote w g (uniF c f) (.tuple #[])) := by
  obtain ⟨b0, b1, bf, ba⟩ := bit_rng c hc
  have c102 := A.cell (j := 102) (by omega)
  rw [hb] at c102
  have LE := Lib.hid (fun (w' : World) (A' : Da w' g f) => least_any A' c hc (bitOf c) bf)
  have NX := Lib.hid (fun (w' : World) (A' : Da w' g f) => next_any A' R (o := c * 12) 8 (by omega) (by omega))
  have rm := R (c * 12)
  have e64 := and64 (f (c * 12)) rm.1 rm.2
  rw [hm, Int.zero_mul] at e64
  have wr := wordOf_rng R (c * 12 + 8)
  have R1 : Rng (put2 f (c * 12 + 8) ((wordOf f (c * 12 + 8) + 1) % 65536)) := R.put2 _ (by omega) (by omega)
  have r103 := R 103
  have RU : Rng (uniA c f) := R1.put1 _ (by omega) (by omega)
  have e103 : (put2 f (c * 12 + 8) ((wordOf f (c * 12 + 8) + 1) % 65536)) 103 = f 103 := put2_ne (by omega) (by omega)
  have hU : uniA c f = put1 (put2 f (c * 12 + 8) ((wordOf f (c * 12 + 8) + 1) % 65536)) 103 ((f 103 + 1) % 256) := rfl
  have hF : uniF c f = if lenOf (f (c * 12)) ≤ (f 103 + 1) % 256 then (if (cntF c (uniA c f)).1 = true then endF (cntF c (uniA c f)).2 else (cntF c (uniA c f)).2) else uniA c f := rfl
  have um : uniA c f (c * 12) = f (c * 12) := uniA_ne (by omega) (by omega) (by omega)
  have u102 : uniA c f 102 = bitOf c := (uniA_ne (by omega) (by omega) (by omega)).trans hb
  have u103 : uniA c f 103 = (f 103 + 1) % 256 := by rw [hU, put1_at, if_pos rfl]
  obtain ⟨f1, hf1⟩ : ∃ f1, put2 f (c * 12 + 8) ((wordOf f (c * 12 + 8) + 1) % 65536) = f1 := ⟨_, rfl⟩
  rw [hf1] at NX hU e103 R1
  obtain ⟨n, hn⟩ : ∃ n, f 103 = n := ⟨_, rfl⟩
  rw [hn] at hF hU e103 r103 u103
  obtain ⟨z, hz⟩ : ∃ z, (n + 1) % 256 = z := ⟨_, rfl⟩
  have z0 : 0 ≤ z := by omega
  have z1 : z ≤ 255 := by omega
  rw [hz] at hF hU u103
  have ew : IntKind.u8.wrap (n + 1) = z := by rw [IntKind.wrap_u8]; exact hz
  have CN := Lib.hid (fun (w' : World) (A' : Da w' g (uniA c f)) => counted_any A' RU c hc)
  have LG := Lib.hid (fun (w' : World) (A' : Da w' g (uniA c f)) => length_any A' RU (o := c * 12) (by omega))
  rw [um] at LG
  have h102 : (cntF c (uniA c f)).1 = true → (cntF c (uniA c f)).2 102 = 0 := fun h => by rw [cntF_102 c hc _ h, u102, ba]
  obtain ⟨⟨b, f3⟩, hcn⟩ : ∃ q, cntF c (uniA c f) = q := ⟨_, rfl⟩
  rw [hcn] at CN hF h102
  simp only at CN hF h102
  obtain ⟨fu, hfu⟩ : ∃ fu, uniA c f = fu := ⟨_, rfl⟩
  rw [hfu] at CN LG hF hU um u103
  have pr := lenOf_rng (f (c * 12))
  obtain ⟨ln, hln⟩ : ∃ ln, lenOf (f (c * 12)) = ln := ⟨_, rfl⟩
  rw [hln] at LG hF pr
  obtain ⟨p0, p1⟩ := pr
  have HU := Lib.hid hU
  have HF := Lib.hid hF
  have H103 := Lib.hid e103
  have HU3 := Lib.hid u103
  have H102 := Lib.hid h102
  have HA := Lib.hid A
  have cm0 := A.cell (j := c * 12) (by omega)
  clear A R R1 RU hU hF um u102 u103 hf1 hn hz hcn hfu hln h102 e103 hb hm rm wr r103
  go_enter Try.func41, Try.ntmps41
  go_wp2_with fail
  refine (LE.out _ HA.out).mono ?_
  rintro e w1 ⟨rfl, hb1⟩
  have A1 := Lib.hid (HA.out.kept hb1)
  have cm := keepC hb1 cm0
  have U1 := Lib.hid (Upd.ofBelow hb1 g)
  clear hb1 HA LE c102 cm0
  go_wp2_with fail
  refine (NX.out _ A1.out).mono ?_
  rintro e w2 ⟨rfl, a2, u2⟩
  have c103 := a2.cell (j := 103) (by omega)
  rw [H103.out] at c103
  have f103 := a2.frozen 103
  have a3 := a2.put1 (i := 103) (by omega) z
  rw [← HU.out] at a3
  have k103 := a3.cell (j := 103) (by omega)
  rw [HU3.out] at k103
  have A3 := Lib.hid a3
  have U3 := Lib.hid ((U1.out.trans u2).set 103 (.int .u8 z))
  clear a2 u2 a3 A1 U1 NX cm
  go_upto_region 5 with (fail)
  obtain ⟨W3, hW3⟩ : ∃ W3, W3 = w2.setCell ⟨g, 103, none⟩ (.int .u8 z) := ⟨_, rfl⟩
  rw [← hW3] at A3 U3 k103 ⊢
  clear hW3 c103 f103
  by_cases hl : ln ≤ z
  · have hff := HF.out
    rw [if_pos hl] at hff
    have HF2 := Lib.hid hff
    clear hff HF
    go_cut [44] from 32 to 44 (fun s wx => s = .bool b ∧ Da wx g f3 ∧ Upd W3 g wx)
    case first =>
      obtain ⟨wd, hwd⟩ : ∃ wd, wd = W3.drew := ⟨_, rfl⟩
      have k103d : wd.cell? ⟨g, 103, none⟩ = some (.int .u8 z) := by rw [hwd]; exact k103
      have AD : Hid (Da wd g fu) := by rw [hwd]; exact A3.out
      have UD : Hid (Upd W3 g wd) := by rw [hwd]; exact (Upd.refl _ _).drew
      have CB2 := LG.out _ AD.out
      have CC2 := Lib.hid (CN.out _ AD.out)
      clear k103
      refine wp_region_still_tail 11 (by kernel_rfl) (by kernel_rfl) ?_
      change wpStill _ _ (World.drew _) (fun a' => wpList _ _ _ _ a' (World.drew _)) _ _
      rw [← hwd]
      clear hwd
      simp only [List.take_succ_cons, List.take_zero, List.drop_succ_cons, List.drop_zero]
      repeat still_step
      still_call CB2
      repeat still_step
      refine wpStill_nil ?_
      go_wp2_with fail
      refine CC2.out.mono ?_
      rintro e w4 ⟨rfl, a4, u4⟩
      have A4 := Lib.hid a4
      have U4 := Lib.hid (UD.out.trans u4)
      clear a4 u4
      go_wp2_with fail
      go_meet
      exact ⟨rfl, A4.out, U4.out⟩
    case rest =>
      obtain ⟨rfl, a4, u4⟩ := hcut
      have A4 := Lib.hid a4
      have U4 := Lib.hid (U3.out.trans u4)
      cases b
      · have hff := HF2.out
        rw [if_neg (by decide)] at hff
        have HF3 := Lib.hid hff
        clear a4 u4 k103 A3 U3 hff HF2
        go_wp2_with fail
        go_end0
        rw [HF3.out]
        exact ⟨rfl, A4.out, U4.out⟩
      · have hff := HF2.out
        rw [if_pos rfl] at hff
        have HF3 := Lib.hid hff
        have BG := Lib.hid (begin_none a4 (H102.out rfl))
        clear a4 u4 k103 A3 U3 hff HF2
        go_wp2_with fail
        refine BG.out.mono ?_
        rintro e w5 ⟨rfl, a5, u5⟩
        have A5 := Lib.hid a5
        have U5 := Lib.hid (U4.out.trans u5)
        clear a5 u5
        go_wp2_with fail
        go_end0
        rw [HF3.out]
        exact ⟨rfl, A5.out, U5.out⟩
  · have hff := HF.out
    rw [if_neg hl] at hff
    have HF2 := Lib.hid hff
    clear hff HF
    go_cut [44] from 32 to 44 (fun s wx => s = .bool false ∧ Da wx g fu ∧ Upd W3 g wx)
    case first =>
      obtain ⟨wd, hwd⟩ : ∃ wd, wd = W3.drew := ⟨_, rfl⟩
      have k103d : wd.cell? ⟨g, 103, none⟩ = some (.int .u8 z) := by rw [hwd]; exact k103
      have AD : Hid (Da wd g fu) := by rw [hwd]; exact A3.out
      have UD : Hid (Upd W3 g wd) := by rw [hwd]; exact (Upd.refl _ _).drew
      have CB2 := LG.out _ AD.out
      have CC2 := Lib.hid (CN.out _ AD.out)
      clear k103
      refine wp_region_still_tail 11 (by kernel_rfl) (by kernel_rfl) ?_
      change wpStill _ _ (World.drew _) (fun a' => wpList _ _ _ _ a' (World.drew _)) _ _
      rw [← hwd]
      clear hwd
      simp only [List.take_succ_cons, List.take_zero, List.drop_succ_cons, List.drop_zero]
      repeat still_step
      still_call CB2
      repeat still_step
      refine wpStill_nil ?_
      go_wp2_with fail
      go_meet
      exact ⟨rfl, AD.out, UD.out⟩
    case rest =>
      obtain ⟨rfl, a4, u4⟩ := hcut
      have A4 := Lib.hid a4
      have U4 := Lib.hid (U3.out.trans u4)
      clear a4 u4 k103 A3 U3
      go_wp2_with fail
      go_end0
      rw [HF2.out]
      exact ⟨rfl, A4.out, U4.out⟩
end
end Go.Proofs.Ytkeikkkcmackeaa
