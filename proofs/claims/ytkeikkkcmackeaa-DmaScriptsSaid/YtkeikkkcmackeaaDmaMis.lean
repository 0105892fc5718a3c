/- dma, the document's table: a byte of a line, of an entry. dma, the document's Done. -/
import Derived.Test.YtkeikkkcmackeaaDmaMd
import Derived.Test.YtkeikkkcmackeaaDmaEs
namespace Go.Proofs.Ytkeikkkcmackeaa
open Go.RowKit
set_option linter.unusedVariables false
set_option linter.unusedSimpArgs false
set_option maxRecDepth 100000
section
variable {w : World} {B : Nat} {f r : Nat → Int}

set_option maxHeartbeats 8000000 in
theorem dunit_dir (A : Ra w B f) (R : Rng f) (c : Nat) (hc : c < 8) (hm : indB f c = false) (hs : f 103 < 8) (v : Int) (HB1 : (utF c f).1 = true → DBeg B (utF c f).2 r) (HB0 : (utF c f).1 = false → r = (utF c f).2) :
    Calls Try.prog 56 #[at_ B 0, .int .i64 c, .int .u8 v] w (WroteR w B r (.tuple #[])) := by
  have c103 := A.cell (j := 103) (by omega)
  have zc : (c : Int) < 8 := by omega
  have IN := Lib.hid (fun (w' : World) (A' : Ra w' B f) => dindirect_any A' R c hc)
  have hm' : decide (bitN (f (c * 12)) 6 = 1) = false := hm
  rw [hm'] at IN
  have WD := Lib.hid (fun (w' : World) (A' : Ra w' B f) => dword_any A' R c 8 hc (by omega))
  have wr := wordOf_rng R (c * 12 + 8)
  have hA : utA c f = put2 f (c * 12 + 8) ((wordOf f (c * 12 + 8) + 1) % 65536) := by unfold utA; rw [hm]; rfl
  have SE := Lib.hid (fun (w' : World) (A' : Ra w' B f) => dset_any A' c 8 hc (by omega) (wordOf f (c * 12 + 8) + 1) (by omega) (by omega))
  rw [← hA] at SE
  have r103 := R 103
  have RA : Rng (utA c f) := utA_rng R
  have RU : Rng (utB c f) := RA.put1 _ (by omega) (by omega)
  have e103 : utA c f 103 = f 103 := utA_ne (by omega) hc
  have eM : utA c f (c * 12) = f (c * 12) := by rw [hA, put2_ne (by omega) (by omega)]
  have hU : utB c f = put1 (utA c f) 103 (f 103 + 1) := rfl
  have um : utB c f (c * 12) = f (c * 12) := by rw [hU, put1_ne (by omega), eM]
  have u103 : utB c f 103 = f 103 + 1 := by rw [hU, put1_at, if_pos rfl]
  have hq1 : lenOf (f (c * 12)) ≤ f 103 + 1 → utF c f = cntF c (utB c f) := fun h => by unfold utF; rw [if_pos h]
  have hq0 : ¬ lenOf (f (c * 12)) ≤ f 103 + 1 → utF c f = (false, utB c f) := fun h => by unfold utF; rw [if_neg h]
  obtain ⟨fa, hfa⟩ : ∃ fa, utA c f = fa := ⟨_, rfl⟩
  rw [hfa] at SE e103 hU
  obtain ⟨z, hz⟩ : ∃ z, f 103 + 1 = z := ⟨_, rfl⟩
  have z0 : 0 ≤ z := by omega
  have z1 : z ≤ 255 := by omega
  have ew : IntKind.u8.wrap (f 103 + 1) = z := by rw [IntKind.wrap_u8]; omega
  have wz : IntKind.i64.wrap z = z := by rw [IntKind.wrap_i64]; omega
  rw [hz] at hU u103 hq1 hq0
  obtain ⟨n, hn⟩ : ∃ n, f 103 = n := ⟨_, rfl⟩
  rw [hn] at c103 e103 ew hs
  have PA := Lib.hid (fun (w' : World) (A' : Ra w' B (utB c f)) => dPattern_any A' RU c hc)
  rw [um] at PA
  have sz := patS_size (f (c * 12)) (R _).1 (R _).2
  have lr := lenOf_rng (f (c * 12))
  have G1 : Hid (lenOf (f (c * 12)) ≤ z → ∀ (w' : World) (A' : Ra w' B (utB c f)), Calls Try.prog 74 #[at_ B 0, .int .i64 c] w' (WroteR w' B r (.tuple #[]))) := Lib.hid (fun h w' A' => dcounted_gen A' RU c hc (fun q => by have := HB1 (by rw [hq1 h]; exact q); rw [hq1 h] at this; exact this) (fun q => by have := HB0 (by rw [hq1 h]; exact q); rw [hq1 h] at this; exact this))
  have G0 : Hid (z < lenOf (f (c * 12)) → r = utB c f) := Lib.hid (fun h => by have h := Int.not_le.mpr h; have := HB0 (by rw [hq0 h]); rw [hq0 h] at this; exact this)
  obtain ⟨fu, hfu⟩ : ∃ fu, utB c f = fu := ⟨_, rfl⟩
  rw [hfu] at PA G1 G0 hU u103
  have HU := Lib.hid hU
  have HZ := Lib.hid u103
  have HE := Lib.hid e103
  obtain ⟨s, hs'⟩ : ∃ s, patS (f (c * 12)) = s := ⟨_, rfl⟩
  obtain ⟨L, hL⟩ : ∃ L, lenOf (f (c * 12)) = L := ⟨_, rfl⟩
  rw [hL] at sz lr G1 G0
  rw [hs'] at sz PA
  obtain ⟨x, hx⟩ : ∃ x, wordOf f (c * 12 + 8) = x := ⟨_, rfl⟩
  rw [hx] at WD SE wr
  have wx : IntKind.i64.wrap (x + 1) = x + 1 := by rw [IntKind.wrap_i64]; omega
  have HA := Lib.hid A
  clear A R hm hm' hA RA RU eM hU um u103 hq1 hq0 hfa hz hn hfu hs' hL hx HB1 HB0 e103 r103
  go_enter Try.func56, Try.ntmps56
  go_wp2_with fail
  refine (IN.out _ HA.out).mono ?_
  rintro e w2 ⟨rfl, hb2⟩
  have A2 := Lib.hid (Arr.kept HA.out hb2)
  have U2 := Lib.hid (Upd.ofBelow hb2 B)
  clear hb2 HA IN c103
  go_wp2_with fail
  refine (WD.out _ A2.out).mono ?_
  rintro e w3 ⟨rfl, hb3⟩
  have A3 := Lib.hid (Arr.kept A2.out hb3)
  have U3 := Lib.hid (U2.out.trans (Upd.ofBelow hb3 B))
  clear hb3 A2 U2 WD
  go_wp2_with fail
  refine (SE.out _ A3.out).mono ?_
  rintro e w4 ⟨rfl, a4, u4⟩
  have c103 := a4.cell (j := 103) (by omega)
  rw [HE.out] at c103
  have f103 := a4.frozen 103
  have a5 := Ra.put1 a4 (i := 103) (by omega) z
  rw [← HU.out] at a5
  have U5 := Lib.hid ((U3.out.trans u4).set 103 (.int .u8 z))
  have KF : Hid (∀ w', Below (w4.setCell ⟨B, 103, none⟩ (.int .u8 z)).heap.size (w4.setCell ⟨B, 103, none⟩ (.int .u8 z)) w' → Ra w' B fu) := Lib.hid (fun w' hb => Arr.kept a5 hb)
  clear a4 u4 a5 SE A3 U3
  go_upto_region 5 with (fail)
  obtain ⟨w5, hw5⟩ : ∃ w5, w5 = w4.setCell ⟨B, 103, none⟩ (.int .u8 z) := ⟨_, rfl⟩
  have EW := hw5
  rw [← hw5] at KF U5
  try rw [← hw5]
  have pd : w5.drew.cell? ⟨B, 103, none⟩ = some (.int .u8 z) := by
    have := (KF.out _ (Below.refl _ _).drew).cell (j := 103) (by omega)
    rw [HZ.out] at this; exact this
  clear c103 f103 hw5 EW
  go_region_held3 (fun w' => w'.cell? ⟨B, 103, none⟩ = some (.int .u8 z))
    (first | (with_reducible exact pd) | (with_reducible exact q6))
    (first
      | (go_at_call 77; refine (PA.out _ (KF.out _ (Below.refl _ _).drew)).mono ?_; rintro e w6 ⟨rfl, hb6⟩; have q6 := keepC hb6 pd; have HB6 := Lib.hid ((Below.refl _ _).drew.trans hb6); have A6 := Lib.hid (KF.out _ HB6.out); clear hb6))
  all_goals
    by_cases hl : L ≤ z
    · have CC := Lib.hid (G1.out hl _ A6.out)
      have U6 := Lib.hid (U5.out.trans (Upd.ofBelow HB6.out B))
      clear G1 G0 lr HB6 A6 pd q6 PA KF
      go_wp2_with fail
      refine CC.out.mono ?_
      rintro e w7 ⟨rfl, a7, u7⟩
      have A7 := Lib.hid a7
      have U7 := Lib.hid (U6.out.trans u7)
      clear a7 u7
      go_wp2_with fail
      refine bodyPost_ret (results_none rfl _ _ _) rfl ?_
      exact ⟨rfl, A7.out, U7.out⟩
    · have hl : z < L := Int.not_le.mp hl
      have HR := Lib.hid (G0.out hl)
      have U6 := Lib.hid (U5.out.trans (Upd.ofBelow HB6.out B))
      have hl2 : ¬ L ≤ z := Int.not_le.mpr hl
      clear G1 G0 lr pd q6 PA KF
      go_wp2_with fail
      refine bodyPost_ret (results_none rfl _ _ _) rfl ?_
      rw [HR.out]
      exact ⟨rfl, A6.out, U6.out⟩

set_option maxHeartbeats 8000000 in
theorem dunit_ind (A : Ra w B f) (R : Rng f) (c : Nat) (hc : c < 8) (hm : indB f c = true) (hs : f 103 < 8) (v : Int) (HB1 : (utF c f).1 = true → DBeg B (utF c f).2 r) (HB0 : (utF c f).1 = false → r = (utF c f).2) :
    Calls Try.prog 56 #[at_ B 0, .int .i64 c, .int .u8 v] w (WroteR w B r (.tuple #[])) := by
  have c103 := A.cell (j := 103) (by omega)
  have zc : (c : Int) < 8 := by omega
  have IN := Lib.hid (fun (w' : World) (A' : Ra w' B f) => dindirect_any A' R c hc)
  have hm' : decide (bitN (f (c * 12)) 6 = 1) = true := hm
  rw [hm'] at IN
  have WD := Lib.hid (fun (w' : World) (A' : Ra w' B f) => dword_any A' R c 5 hc (by omega))
  have wr := wordOf_rng R (c * 12 + 5)
  have hA : utA c f = put2 f (c * 12 + 5) ((wordOf f (c * 12 + 5) + 1) % 65536) := by unfold utA; rw [hm]; rfl
  have SE := Lib.hid (fun (w' : World) (A' : Ra w' B f) => dset_any A' c 5 hc (by omega) (wordOf f (c * 12 + 5) + 1) (by omega) (by omega))
  rw [← hA] at SE
  have r103 := R 103
  have RA : Rng (utA c f) := utA_rng R
  have RU : Rng (utB c f) := RA.put1 _ (by omega) (by omega)
  have e103 : utA c f 103 = f 103 := utA_ne (by omega) hc
  have eM : utA c f (c * 12) = f (c * 12) := by rw [hA, put2_ne (by omega) (by omega)]
  have hU : utB c f = put1 (utA c f) 103 (f 103 + 1) := rfl
  have um : utB c f (c * 12) = f (c * 12) := by rw [hU, put1_ne (by omega), eM]
  have u103 : utB c f 103 = f 103 + 1 := by rw [hU, put1_at, if_pos rfl]
  have hq1 : lenOf (f (c * 12)) ≤ f 103 + 1 → utF c f = cntF c (utB c f) := fun h => by unfold utF; rw [if_pos h]
  have hq0 : ¬ lenOf (f (c * 12)) ≤ f 103 + 1 → utF c f = (false, utB c f) := fun h => by unfold utF; rw [if_neg h]
  obtain ⟨fa, hfa⟩ : ∃ fa, utA c f = fa := ⟨_, rfl⟩
  rw [hfa] at SE e103 hU
  obtain ⟨z, hz⟩ : ∃ z, f 103 + 1 = z := ⟨_, rfl⟩
  have z0 : 0 ≤ z := by omega
  have z1 : z ≤ 255 := by omega
  have ew : IntKind.u8.wrap (f 103 + 1) = z := by rw [IntKind.wrap_u8]; omega
  have wz : IntKind.i64.wrap z = z := by rw [IntKind.wrap_i64]; omega
  rw [hz] at hU u103 hq1 hq0
  obtain ⟨n, hn⟩ : ∃ n, f 103 = n := ⟨_, rfl⟩
  rw [hn] at c103 e103 ew hs
  have PA := Lib.hid (fun (w' : World) (A' : Ra w' B (utB c f)) => dPattern_any A' RU c hc)
  rw [um] at PA
  have sz := patS_size (f (c * 12)) (R _).1 (R _).2
  have lr := lenOf_rng (f (c * 12))
  have G1 : Hid (lenOf (f (c * 12)) ≤ z → ∀ (w' : World) (A' : Ra w' B (utB c f)), Calls Try.prog 74 #[at_ B 0, .int .i64 c] w' (WroteR w' B r (.tuple #[]))) := Lib.hid (fun h w' A' => dcounted_gen A' RU c hc (fun q => by have := HB1 (by rw [hq1 h]; exact q); rw [hq1 h] at this; exact this) (fun q => by have := HB0 (by rw [hq1 h]; exact q); rw [hq1 h] at this; exact this))
  have G0 : Hid (z < lenOf (f (c * 12)) → r = utB c f) := Lib.hid (fun h => by have h := Int.not_le.mpr h; have := HB0 (by rw [hq0 h]); rw [hq0 h] at this; exact this)
  obtain ⟨fu, hfu⟩ : ∃ fu, utB c f = fu := ⟨_, rfl⟩
  rw [hfu] at PA G1 G0 hU u103
  have HU := Lib.hid hU
  have HZ := Lib.hid u103
  have HE := Lib.hid e103
  obtain ⟨s, hs'⟩ : ∃ s, patS (f (c * 12)) = s := ⟨_, rfl⟩
  obtain ⟨L, hL⟩ : ∃ L, lenOf (f (c * 12)) = L := ⟨_, rfl⟩
  rw [hL] at sz lr G1 G0
  rw [hs'] at sz PA
  obtain ⟨x, hx⟩ : ∃ x, wordOf f (c * 12 + 5) = x := ⟨_, rfl⟩
  rw [hx] at WD SE wr
  have wx : IntKind.i64.wrap (x + 1) = x + 1 := by rw [IntKind.wrap_i64]; omega
  have HA := Lib.hid A
  clear A R hm hm' hA RA RU eM hU um u103 hq1 hq0 hfa hz hn hfu hs' hL hx HB1 HB0 e103 r103
  go_enter Try.func56, Try.ntmps56
  go_wp2_with fail
  refine (IN.out _ HA.out).mono ?_
  rintro e w2 ⟨rfl, hb2⟩
  have A2 := Lib.hid (Arr.kept HA.out hb2)
  have U2 := Lib.hid (Upd.ofBelow hb2 B)
  clear hb2 HA IN c103
  go_wp2_with fail
  refine (WD.out _ A2.out).mono ?_
  rintro e w3 ⟨rfl, hb3⟩
  have A3 := Lib.hid (Arr.kept A2.out hb3)
  have U3 := Lib.hid (U2.out.trans (Upd.ofBelow hb3 B))
  clear hb3 A2 U2 WD
  go_wp2_with fail
  refine (SE.out _ A3.out).mono ?_
  rintro e w4 ⟨rfl, a4, u4⟩
  have c103 := a4.cell (j := 103) (by omega)
  rw [HE.out] at c103
  have f103 := a4.frozen 103
  have a5 := Ra.put1 a4 (i := 103) (by omega) z
  rw [← HU.out] at a5
  have U5 := Lib.hid ((U3.out.trans u4).set 103 (.int .u8 z))
  have KF : Hid (∀ w', Below (w4.setCell ⟨B, 103, none⟩ (.int .u8 z)).heap.size (w4.setCell ⟨B, 103, none⟩ (.int .u8 z)) w' → Ra w' B fu) := Lib.hid (fun w' hb => Arr.kept a5 hb)
  clear a4 u4 a5 SE A3 U3
  go_upto_region 5 with (fail)
  obtain ⟨w5, hw5⟩ : ∃ w5, w5 = w4.setCell ⟨B, 103, none⟩ (.int .u8 z) := ⟨_, rfl⟩
  have EW := hw5
  rw [← hw5] at KF U5
  try rw [← hw5]
  have pd : w5.drew.cell? ⟨B, 103, none⟩ = some (.int .u8 z) := by
    have := (KF.out _ (Below.refl _ _).drew).cell (j := 103) (by omega)
    rw [HZ.out] at this; exact this
  clear c103 f103 hw5 EW
  go_region_held3 (fun w' => w'.cell? ⟨B, 103, none⟩ = some (.int .u8 z))
    (first | (with_reducible exact pd) | (with_reducible exact q6))
    (first
      | (go_at_call 77; refine (PA.out _ (KF.out _ (Below.refl _ _).drew)).mono ?_; rintro e w6 ⟨rfl, hb6⟩; have q6 := keepC hb6 pd; have HB6 := Lib.hid ((Below.refl _ _).drew.trans hb6); have A6 := Lib.hid (KF.out _ HB6.out); clear hb6))
  all_goals
    by_cases hl : L ≤ z
    · have CC := Lib.hid (G1.out hl _ A6.out)
      have U6 := Lib.hid (U5.out.trans (Upd.ofBelow HB6.out B))
      clear G1 G0 lr HB6 A6 pd q6 PA KF
      go_wp2_with fail
      refine CC.out.mono ?_
      rintro e w7 ⟨rfl, a7, u7⟩
      have A7 := Lib.hid a7
      have U7 := Lib.hid (U6.out.trans u7)
      clear a7 u7
      go_wp2_with fail
      refine bodyPost_ret (results_none rfl _ _ _) rfl ?_
      exact ⟨rfl, A7.out, U7.out⟩
    · have hl : z < L := Int.not_le.mp hl
      have HR := Lib.hid (G0.out hl)
      have U6 := Lib.hid (U5.out.trans (Upd.ofBelow HB6.out B))
      have hl2 : ¬ L ≤ z := Int.not_le.mpr hl
      clear G1 G0 lr pd q6 PA KF
      go_wp2_with fail
      refine bodyPost_ret (results_none rfl _ _ _) rfl ?_
      rw [HR.out]
      exact ⟨rfl, A6.out, U6.out⟩

set_option maxHeartbeats 8000000 in
theorem dentry_nine (A : Ra w B f) (R : Rng f) (c : Nat) (hc : c < 8) (hs : f 103 = 9) (v : Int) (v0 : 0 ≤ v) (v1 : v ≤ 255)  (hr : r = put1 (put1 (enA c f) (c * 12 + 5) v) 103 10) :
    Calls Try.prog 56 #[at_ B 0, .int .i64 c, .int .u8 v] w (WroteR w B r (.tuple #[])) := by
  have c103 := A.cell (j := 103) (by omega)
  rw [hs] at c103
  have zc : (c : Int) < 8 := by omega
  have WD := Lib.hid (fun (w' : World) (A' : Ra w' B f) => dword_any A' R c 8 hc (by omega))
  have wr := wordOf_rng R (c * 12 + 8)
  have SE := Lib.hid (fun (w' : World) (A' : Ra w' B f) => dset_any A' c 8 hc (by omega) (wordOf f (c * 12 + 8) + 1) (by omega) (by omega))
  have hA : enA c f = put2 f (c * 12 + 8) ((wordOf f (c * 12 + 8) + 1) % 65536) := rfl
  rw [← hA] at SE
  have RA : Rng (enA c f) := enA_rng R
  have e103 : enA c f 103 = 9 := by rw [enA_ne (by omega) hc]; exact hs
  have HR := Lib.hid hr
  obtain ⟨fa, hfa⟩ : ∃ fa, enA c f = fa := ⟨_, rfl⟩
  rw [hfa] at SE e103 HR
  have HE := Lib.hid e103
  obtain ⟨x, hx⟩ : ∃ x, wordOf f (c * 12 + 8) = x := ⟨_, rfl⟩
  rw [hx] at WD SE wr
  have wx : IntKind.i64.wrap (x + 1) = x + 1 := by rw [IntKind.wrap_i64]; omega
  have HA := Lib.hid A
  clear A R hA RA hs hfa hx e103 hr
  go_enter Try.func56, Try.ntmps56
  go_wp2_with fail
  refine (WD.out _ HA.out).mono ?_
  rintro e w3 ⟨rfl, hb3⟩
  have A3 := Lib.hid (Arr.kept HA.out hb3)
  have U3 := Lib.hid (Upd.ofBelow hb3 B)
  clear hb3 HA WD c103
  go_wp2_with fail
  refine (SE.out _ A3.out).mono ?_
  rintro e w4 ⟨rfl, a4, u4⟩
  have c103 := a4.cell (j := 103) (by omega)
  rw [HE.out] at c103
  have f103 := a4.frozen 103
  have fk := a4.frozen (c * 12 + 5)
  have ck := a4.cell (j := c * 12 + 5) (by omega)
  have a5 := Ra.put1 a4 (i := c * 12 + 5) (by omega) v
  have KF : Hid (∀ w', Below (w4.setCell ⟨B, c * 12 + 5, none⟩ (.int .u8 v)).heap.size (w4.setCell ⟨B, c * 12 + 5, none⟩ (.int .u8 v)) w' → Ra w' B (put1 fa (c * 12 + 5) v)) := Lib.hid (fun w' hb => Arr.kept a5 hb)
  have U5 := Lib.hid ((U3.out.trans u4).set (c * 12 + 5) (.int .u8 v))
  clear a4 u4 A3 U3 SE
  have c103' := (KF.out _ (Below.refl _ _)).cell (j := 103) (by omega)
  rw [put1_ne (by omega), HE.out] at c103'
  have A7 := Lib.hid (Ra.put1 (KF.out _ (Below.refl _ _)) (i := 103) (by omega) 10)
  have U7 := Lib.hid (U5.out.set 103 (.int .u8 10))
  clear KF U5
  go_wp2_with fail
  (first | go_end0 | refine bodyPost_ret (results_none rfl _ _ _) rfl ?_)
  rw [HR.out]
  exact ⟨rfl, A7.out, U7.out⟩

set_option maxHeartbeats 8000000 in
theorem dentry_ind (A : Ra w B f) (R : Rng f) (c : Nat) (hc : c < 8) (hs : f 103 = 8) (v : Int) (v0 : 0 ≤ v) (v1 : v ≤ 255) (hm : indB f c = true) (hv : v ≠ 0) (hr : r = put1 (put1 (enA c f) (c * 12 + 10) v) 103 9) :
    Calls Try.prog 56 #[at_ B 0, .int .i64 c, .int .u8 v] w (WroteR w B r (.tuple #[])) := by
  have c103 := A.cell (j := 103) (by omega)
  rw [hs] at c103
  have zc : (c : Int) < 8 := by omega
  have WD := Lib.hid (fun (w' : World) (A' : Ra w' B f) => dword_any A' R c 8 hc (by omega))
  have wr := wordOf_rng R (c * 12 + 8)
  have SE := Lib.hid (fun (w' : World) (A' : Ra w' B f) => dset_any A' c 8 hc (by omega) (wordOf f (c * 12 + 8) + 1) (by omega) (by omega))
  have hA : enA c f = put2 f (c * 12 + 8) ((wordOf f (c * 12 + 8) + 1) % 65536) := rfl
  rw [← hA] at SE
  have RA : Rng (enA c f) := enA_rng R
  have e103 : enA c f 103 = 8 := by rw [enA_ne (by omega) hc]; exact hs
  have eM : enA c f (c * 12) = f (c * 12) := by rw [hA, put2_ne (by omega) (by omega)]
  have RP : Rng (put1 (enA c f) (c * 12 + 10) v) := RA.put1 _ v0 v1
  have IN := Lib.hid (fun (w' : World) (A' : Ra w' B (put1 (enA c f) (c * 12 + 10) v)) => dindirect_any A' RP c hc)
  have hm' : decide (bitN (put1 (enA c f) (c * 12 + 10) v (c * 12)) 6 = 1) = true := by rw [put1_ne (by omega), eM]; exact hm
  rw [hm'] at IN
  have tv : (v == 0) = false := by simpa using hv
  have HR := Lib.hid hr
  obtain ⟨fa, hfa⟩ : ∃ fa, enA c f = fa := ⟨_, rfl⟩
  rw [hfa] at SE e103 HR IN
  have HE := Lib.hid e103
  obtain ⟨x, hx⟩ : ∃ x, wordOf f (c * 12 + 8) = x := ⟨_, rfl⟩
  rw [hx] at WD SE wr
  have wx : IntKind.i64.wrap (x + 1) = x + 1 := by rw [IntKind.wrap_i64]; omega
  have HA := Lib.hid A
  clear A R hA RA hs hfa hx e103 hr eM hm hm' RP hv
  go_enter Try.func56, Try.ntmps56
  go_wp2_with fail
  refine (WD.out _ HA.out).mono ?_
  rintro e w3 ⟨rfl, hb3⟩
  have A3 := Lib.hid (Arr.kept HA.out hb3)
  have U3 := Lib.hid (Upd.ofBelow hb3 B)
  clear hb3 HA WD c103
  go_wp2_with fail
  refine (SE.out _ A3.out).mono ?_
  rintro e w4 ⟨rfl, a4, u4⟩
  have c103 := a4.cell (j := 103) (by omega)
  rw [HE.out] at c103
  have f103 := a4.frozen 103
  have fk := a4.frozen (c * 12 + 10)
  have ck := a4.cell (j := c * 12 + 10) (by omega)
  have a5 := Ra.put1 a4 (i := c * 12 + 10) (by omega) v
  have KF : Hid (∀ w', Below (w4.setCell ⟨B, c * 12 + 10, none⟩ (.int .u8 v)).heap.size (w4.setCell ⟨B, c * 12 + 10, none⟩ (.int .u8 v)) w' → Ra w' B (put1 fa (c * 12 + 10) v)) := Lib.hid (fun w' hb => Arr.kept a5 hb)
  have U5 := Lib.hid ((U3.out.trans u4).set (c * 12 + 10) (.int .u8 v))
  clear a4 u4 A3 U3 SE
  go_wp2_with fail
  refine (IN.out _ (KF.out _ (Below.refl _ _))).mono ?_
  rintro e w6 ⟨rfl, hb6⟩
  have a6 := KF.out w6 hb6
  have c103 := a6.cell (j := 103) (by omega)
  rw [put1_ne (by omega), HE.out] at c103
  have f103 := a6.frozen 103
  have A7 := Lib.hid (Ra.put1 a6 (i := 103) (by omega) 9)
  have U7 := Lib.hid ((U5.out.trans (Upd.ofBelow hb6 B)).set 103 (.int .u8 9))
  clear a6 hb6 KF U5 IN
  go_wp2_with fail
  (first | go_end0 | refine bodyPost_ret (results_none rfl _ _ _) rfl ?_)
  rw [HR.out]
  exact ⟨rfl, A7.out, U7.out⟩

set_option maxHeartbeats 8000000 in
theorem dentry_zero (A : Ra w B f) (R : Rng f) (c : Nat) (hc : c < 8) (hs : f 103 = 8) (v : Int) (v0 : 0 ≤ v) (v1 : v ≤ 255) (hv : v = 0) (H : DBeg B (ovF c (edF c (put1 (enA c f) (c * 12 + 10) v))) r) :
    Calls Try.prog 56 #[at_ B 0, .int .i64 c, .int .u8 v] w (WroteR w B r (.tuple #[])) := by
  have c103 := A.cell (j := 103) (by omega)
  rw [hs] at c103
  have zc : (c : Int) < 8 := by omega
  have WD := Lib.hid (fun (w' : World) (A' : Ra w' B f) => dword_any A' R c 8 hc (by omega))
  have wr := wordOf_rng R (c * 12 + 8)
  have SE := Lib.hid (fun (w' : World) (A' : Ra w' B f) => dset_any A' c 8 hc (by omega) (wordOf f (c * 12 + 8) + 1) (by omega) (by omega))
  have hA : enA c f = put2 f (c * 12 + 8) ((wordOf f (c * 12 + 8) + 1) % 65536) := rfl
  rw [← hA] at SE
  have RA : Rng (enA c f) := enA_rng R
  have e103 : enA c f 103 = 8 := by rw [enA_ne (by omega) hc]; exact hs
  have ex (j : Nat) (h : 96 ≤ j) : (put1 (enA c f) (c * 12 + 10) v) j = f j := by rw [put1_ne (by omega), enA_ne h hc]
  obtain ⟨x99, hx99⟩ : ∃ x, f 99 = x := ⟨_, rfl⟩
  obtain ⟨x100, hx100⟩ : ∃ x, f 100 = x := ⟨_, rfl⟩
  obtain ⟨x102, hx102⟩ : ∃ x, f 102 = x := ⟨_, rfl⟩
  have r99 := R 99; have r100 := R 100; have r102 := R 102
  rw [hx99] at r99; rw [hx100] at r100; rw [hx102] at r102
  have E99 : Hid ((put1 (enA c f) (c * 12 + 10) v) 99 = x99) := Lib.hid (by rw [ex 99 (by omega)]; exact hx99)
  have E100 : Hid ((put1 (enA c f) (c * 12 + 10) v) 100 = x100) := Lib.hid (by rw [ex 100 (by omega)]; exact hx100)
  have E102 : Hid ((put1 (enA c f) (c * 12 + 10) v) 102 = x102) := Lib.hid (by rw [ex 102 (by omega)]; exact hx102)
  have D2 := Lib.hid (fun w' => dwith_any x102 c hc false w' r102.1 r102.2)
  have D0 := Lib.hid (fun w' => dwith_any x99 c hc true w' r99.1 r99.2)
  have p99 := pt_rng' c hc true r99.1 r99.2
  have BI := Lib.hid (fun w' => bit_any (pt x99 (bitOf c) true) c (by omega) w' p99.1 p99.2)
  have tb : bitN (pt x99 (bitOf c) true) c = 1 := by rw [bitN_pt c hc true r99.1 r99.2 c hc, if_pos rfl]; simp
  rw [decide_eq_true tb] at BI
  have hD : ovF c (edF c (put1 (enA c f) (c * 12 + 10) v)) = put1 (put1 (put1 (enA c f) (c * 12 + 10) v) 99 (pt x99 (bitOf c) true)) 102 (pt x102 (bitOf c) false) := by
    unfold ovF edF
    rw [pt_true x99 c hc r99.1 r99.2, pt_false, put1_ne (by decide : (102 : Nat) ≠ 99), ex 102 (by omega), ex 99 (by omega), hx99, hx102]
  rw [hD] at H
  obtain ⟨y99, hy99⟩ : ∃ y, pt x99 (bitOf c) true = y := ⟨_, rfl⟩
  rw [hy99] at H D0 BI
  obtain ⟨y102, hy102⟩ : ∃ y, pt x102 (bitOf c) false = y := ⟨_, rfl⟩
  rw [hy102] at H D2
  have BG := Lib.hid H
  have tv : (v == 0) = true := by simpa using hv
  obtain ⟨fa, hfa⟩ : ∃ fa, enA c f = fa := ⟨_, rfl⟩
  rw [hfa] at SE e103 BG E99 E100 E102
  have HE := Lib.hid e103
  obtain ⟨x, hx⟩ : ∃ x, wordOf f (c * 12 + 8) = x := ⟨_, rfl⟩
  rw [hx] at WD SE wr
  have wx : IntKind.i64.wrap (x + 1) = x + 1 := by rw [IntKind.wrap_i64]; omega
  have HA := Lib.hid A
  clear A R hA RA hs hfa hx e103 H hx99 hx100 hx102 hy102 r99 r100 r102 hD ex hy99 p99 tb hv
  go_enter Try.func56, Try.ntmps56
  go_wp2_with fail
  refine (WD.out _ HA.out).mono ?_
  rintro e w3 ⟨rfl, hb3⟩
  have A3 := Lib.hid (Arr.kept HA.out hb3)
  have U3 := Lib.hid (Upd.ofBelow hb3 B)
  clear hb3 HA WD c103
  go_wp2_with fail
  refine (SE.out _ A3.out).mono ?_
  rintro e w4 ⟨rfl, a4, u4⟩
  have c103 := a4.cell (j := 103) (by omega)
  rw [HE.out] at c103
  have f103 := a4.frozen 103
  have fk := a4.frozen (c * 12 + 10)
  have ck := a4.cell (j := c * 12 + 10) (by omega)
  have a5 := Ra.put1 a4 (i := c * 12 + 10) (by omega) v
  have KF : Hid (∀ w', Below (w4.setCell ⟨B, c * 12 + 10, none⟩ (.int .u8 v)).heap.size (w4.setCell ⟨B, c * 12 + 10, none⟩ (.int .u8 v)) w' → Ra w' B (put1 fa (c * 12 + 10) v)) := Lib.hid (fun w' hb => Arr.kept a5 hb)
  have U5 := Lib.hid ((U3.out.trans u4).set (c * 12 + 10) (.int .u8 v))
  clear a4 u4 A3 U3 SE
  have c99 := (KF.out _ (Below.refl _ _)).cell (j := 99) (by omega)
  rw [E99.out] at c99
  go_wp2_with fail
  refine (D0.out _).mono ?_
  rintro e w6 ⟨rfl, hb6⟩
  have a6 := KF.out w6 hb6
  have c99 := a6.cell (j := 99) (by omega)
  have f99 := a6.frozen 99
  have a7 := Ra.put1 a6 (i := 99) (by omega) y99
  have K7 : Hid (∀ w', Below (w6.setCell ⟨B, 99, none⟩ (.int .u8 y99)).heap.size (w6.setCell ⟨B, 99, none⟩ (.int .u8 y99)) w' → Ra w' B (put1 (put1 fa (c * 12 + 10) v) 99 y99)) := Lib.hid (fun w' hb => Arr.kept a7 hb)
  have U7 := Lib.hid ((U5.out.trans (Upd.ofBelow hb6 B)).set 99 (.int .u8 y99))
  have d99 := a7.cell (j := 99) (by omega)
  rw [put1_at, if_pos rfl] at d99
  have d103 := a7.cell (j := 103) (by omega)
  rw [put1_ne (by decide), put1_ne (by omega), HE.out] at d103
  clear a6 hb6 KF U5 D0 a7
  go_wp2_with fail
  refine (BI.out _).mono ?_
  rintro e w8 ⟨rfl, hb8⟩
  have a8 := K7.out w8 hb8
  have c102 := a8.cell (j := 102) (by omega)
  rw [put1_ne (by decide), E102.out] at c102
  have K9 : Hid (∀ w', Below w8.heap.size w8 w' → Ra w' B (put1 (put1 fa (c * 12 + 10) v) 99 y99)) := Lib.hid (fun w' hb => Arr.kept a8 hb)
  have U9 := Lib.hid (U7.out.trans (Upd.ofBelow hb8 B))
  clear a8 hb8 K7 U7 BI d99 c99 f99 d103
  go_wp2_with fail
  refine (D2.out _).mono ?_
  rintro e w10 ⟨rfl, hb10⟩
  have a10 := K9.out w10 hb10
  have c102 := a10.cell (j := 102) (by omega)
  have f102 := a10.frozen 102
  have CC := Lib.hid (BG.out _ (Ra.put1 a10 (i := 102) (by omega) y102))
  have U11 := Lib.hid ((U9.out.trans (Upd.ofBelow hb10 B)).set 102 (.int .u8 y102))
  clear a10 hb10 K9 U9 D2 BG
  go_wp2_with fail
  refine CC.out.mono ?_
  rintro e w12 ⟨rfl, a12, u12⟩
  have A12 := Lib.hid a12
  have U12 := Lib.hid (U11.out.trans u12)
  clear a12 u12 CC U11
  go_wp2_with fail
  (first | go_end0 | refine bodyPost_ret (results_none rfl _ _ _) rfl ?_)
  exact ⟨rfl, A12.out, U12.out⟩

set_option maxHeartbeats 8000000 in
theorem dentry_dir (A : Ra w B f) (R : Rng f) (c : Nat) (hc : c < 8) (hs : f 103 = 8) (v : Int) (v0 : 0 ≤ v) (v1 : v ≤ 255) (hm : indB f c = false) (hv : v ≠ 0) (he : bitN (f 99) c ≠ 1) (H : DBeg B (ovF c (dsF c (put1 (enA c f) (c * 12 + 10) v))) r) :
    Calls Try.prog 56 #[at_ B 0, .int .i64 c, .int .u8 v] w (WroteR w B r (.tuple #[])) := by
  have c103 := A.cell (j := 103) (by omega)
  rw [hs] at c103
  have zc : (c : Int) < 8 := by omega
  have WD := Lib.hid (fun (w' : World) (A' : Ra w' B f) => dword_any A' R c 8 hc (by omega))
  have wr := wordOf_rng R (c * 12 + 8)
  have SE := Lib.hid (fun (w' : World) (A' : Ra w' B f) => dset_any A' c 8 hc (by omega) (wordOf f (c * 12 + 8) + 1) (by omega) (by omega))
  have hA : enA c f = put2 f (c * 12 + 8) ((wordOf f (c * 12 + 8) + 1) % 65536) := rfl
  rw [← hA] at SE
  have RA : Rng (enA c f) := enA_rng R
  have e103 : enA c f 103 = 8 := by rw [enA_ne (by omega) hc]; exact hs
  have ex (j : Nat) (h : 96 ≤ j) : (put1 (enA c f) (c * 12 + 10) v) j = f j := by rw [put1_ne (by omega), enA_ne h hc]
  obtain ⟨x99, hx99⟩ : ∃ x, f 99 = x := ⟨_, rfl⟩
  obtain ⟨x100, hx100⟩ : ∃ x, f 100 = x := ⟨_, rfl⟩
  obtain ⟨x102, hx102⟩ : ∃ x, f 102 = x := ⟨_, rfl⟩
  have r99 := R 99; have r100 := R 100; have r102 := R 102
  rw [hx99] at r99; rw [hx100] at r100; rw [hx102] at r102
  have E99 : Hid ((put1 (enA c f) (c * 12 + 10) v) 99 = x99) := Lib.hid (by rw [ex 99 (by omega)]; exact hx99)
  have E100 : Hid ((put1 (enA c f) (c * 12 + 10) v) 100 = x100) := Lib.hid (by rw [ex 100 (by omega)]; exact hx100)
  have E102 : Hid ((put1 (enA c f) (c * 12 + 10) v) 102 = x102) := Lib.hid (by rw [ex 102 (by omega)]; exact hx102)
  have D2 := Lib.hid (fun w' => dwith_any x102 c hc false w' r102.1 r102.2)
  have BI := Lib.hid (fun w' => bit_any x99 c (by omega) w' r99.1 r99.2)
  rw [hx99] at he
  rw [decide_eq_false he] at BI
  have D1 := Lib.hid (fun w' => dwith_any x100 c hc true w' r100.1 r100.2)
  have hD : ovF c (dsF c (put1 (enA c f) (c * 12 + 10) v)) = put1 (put1 (put1 (enA c f) (c * 12 + 10) v) 100 (pt x100 (bitOf c) true)) 102 (pt x102 (bitOf c) false) := by
    unfold ovF dsF
    rw [pt_true x100 c hc r100.1 r100.2, pt_false, put1_ne (by decide : (102 : Nat) ≠ 100), ex 102 (by omega), ex 100 (by omega), hx100, hx102]
  rw [hD] at H
  obtain ⟨y100, hy100⟩ : ∃ y, pt x100 (bitOf c) true = y := ⟨_, rfl⟩
  rw [hy100] at H D1
  obtain ⟨y102, hy102⟩ : ∃ y, pt x102 (bitOf c) false = y := ⟨_, rfl⟩
  rw [hy102] at H D2
  have BG := Lib.hid H
  have eM : enA c f (c * 12) = f (c * 12) := by rw [hA, put2_ne (by omega) (by omega)]
  have RP : Rng (put1 (enA c f) (c * 12 + 10) v) := RA.put1 _ v0 v1
  have IN := Lib.hid (fun (w' : World) (A' : Ra w' B (put1 (enA c f) (c * 12 + 10) v)) => dindirect_any A' RP c hc)
  have hm' : decide (bitN (put1 (enA c f) (c * 12 + 10) v (c * 12)) 6 = 1) = false := by rw [put1_ne (by omega), eM]; exact hm
  rw [hm'] at IN
  have tv : (v == 0) = false := by simpa using hv
  obtain ⟨fa, hfa⟩ : ∃ fa, enA c f = fa := ⟨_, rfl⟩
  rw [hfa] at SE e103 BG E99 E100 E102 IN
  have HE := Lib.hid e103
  obtain ⟨x, hx⟩ : ∃ x, wordOf f (c * 12 + 8) = x := ⟨_, rfl⟩
  rw [hx] at WD SE wr
  have wx : IntKind.i64.wrap (x + 1) = x + 1 := by rw [IntKind.wrap_i64]; omega
  have HA := Lib.hid A
  clear A R hA RA hs hfa hx e103 H hx99 hx100 hx102 hy102 r99 r100 r102 hD ex he hy100 eM hm hm' RP hv
  go_enter Try.func56, Try.ntmps56
  go_wp2_with fail
  refine (WD.out _ HA.out).mono ?_
  rintro e w3 ⟨rfl, hb3⟩
  have A3 := Lib.hid (Arr.kept HA.out hb3)
  have U3 := Lib.hid (Upd.ofBelow hb3 B)
  clear hb3 HA WD c103
  go_wp2_with fail
  refine (SE.out _ A3.out).mono ?_
  rintro e w4 ⟨rfl, a4, u4⟩
  have c103 := a4.cell (j := 103) (by omega)
  rw [HE.out] at c103
  have f103 := a4.frozen 103
  have fk := a4.frozen (c * 12 + 10)
  have ck := a4.cell (j := c * 12 + 10) (by omega)
  have a5 := Ra.put1 a4 (i := c * 12 + 10) (by omega) v
  have KF : Hid (∀ w', Below (w4.setCell ⟨B, c * 12 + 10, none⟩ (.int .u8 v)).heap.size (w4.setCell ⟨B, c * 12 + 10, none⟩ (.int .u8 v)) w' → Ra w' B (put1 fa (c * 12 + 10) v)) := Lib.hid (fun w' hb => Arr.kept a5 hb)
  have U5 := Lib.hid ((U3.out.trans u4).set (c * 12 + 10) (.int .u8 v))
  clear a4 u4 A3 U3 SE
  go_wp2_with fail
  refine (IN.out _ (KF.out _ (Below.refl _ _))).mono ?_
  rintro e w6 ⟨rfl, hb6⟩
  have a6 := KF.out w6 hb6
  have c99 := a6.cell (j := 99) (by omega)
  rw [E99.out] at c99
  have d103 := a6.cell (j := 103) (by omega)
  rw [put1_ne (by omega), HE.out] at d103
  have U6 := Lib.hid (U5.out.trans (Upd.ofBelow hb6 B))
  have K6 : Hid (∀ w', Below w6.heap.size w6 w' → Ra w' B (put1 fa (c * 12 + 10) v)) := Lib.hid (fun w' hb => Arr.kept a6 hb)
  clear a6 hb6 KF U5 IN c103 f103
  go_wp2_with fail
  refine (BI.out _).mono ?_
  rintro e w7 ⟨rfl, hb7⟩
  have a7 := K6.out w7 hb7
  have c100 := a7.cell (j := 100) (by omega)
  rw [E100.out] at c100
  have U7 := Lib.hid (U6.out.trans (Upd.ofBelow hb7 B))
  have K7 : Hid (∀ w', Below w7.heap.size w7 w' → Ra w' B (put1 fa (c * 12 + 10) v)) := Lib.hid (fun w' hb => Arr.kept a7 hb)
  clear a7 hb7 K6 U6 BI c99
  go_wp2_with fail
  refine (D1.out _).mono ?_
  rintro e w8 ⟨rfl, hb8⟩
  have a8 := K7.out w8 hb8
  have c100 := a8.cell (j := 100) (by omega)
  have f100 := a8.frozen 100
  have a9 := Ra.put1 a8 (i := 100) (by omega) y100
  have K9 : Hid (∀ w', Below (w8.setCell ⟨B, 100, none⟩ (.int .u8 y100)).heap.size (w8.setCell ⟨B, 100, none⟩ (.int .u8 y100)) w' → Ra w' B (put1 (put1 fa (c * 12 + 10) v) 100 y100)) := Lib.hid (fun w' hb => Arr.kept a9 hb)
  have U9 := Lib.hid ((U7.out.trans (Upd.ofBelow hb8 B)).set 100 (.int .u8 y100))
  have c102 := a9.cell (j := 102) (by omega)
  rw [put1_ne (by decide), E102.out] at c102
  clear a8 hb8 K7 U7 D1 a9
  go_wp2_with fail
  refine (D2.out _).mono ?_
  rintro e w10 ⟨rfl, hb10⟩
  have a10 := K9.out w10 hb10
  have c102 := a10.cell (j := 102) (by omega)
  have f102 := a10.frozen 102
  have CC := Lib.hid (BG.out _ (Ra.put1 a10 (i := 102) (by omega) y102))
  have U11 := Lib.hid ((U9.out.trans (Upd.ofBelow hb10 B)).set 102 (.int .u8 y102))
  clear a10 hb10 K9 U9 D2 BG
  go_wp2_with fail
  refine CC.out.mono ?_
  rintro e w12 ⟨rfl, a12, u12⟩
  have A12 := Lib.hid a12
  have U12 := Lib.hid (U11.out.trans u12)
  clear a12 u12 CC U11
  go_wp2_with fail
  (first | go_end0 | refine bodyPost_ret (results_none rfl _ _ _) rfl ?_)
  exact ⟨rfl, A12.out, U12.out⟩

set_option maxHeartbeats 8000000 in
theorem dentry_ten (A : Ra w B f) (R : Rng f) (c : Nat) (hc : c < 8) (hs : f 103 = 10) (v : Int) (v0 : 0 ≤ v) (v1 : v ≤ 255) (he : bitN (f 99) c ≠ 1) (H : DBeg B (ovF c (dsF c (put1 (enA c f) (c * 12 + 6) v))) r) :
    Calls Try.prog 56 #[at_ B 0, .int .i64 c, .int .u8 v] w (WroteR w B r (.tuple #[])) := by
  have c103 := A.cell (j := 103) (by omega)
  rw [hs] at c103
  have zc : (c : Int) < 8 := by omega
  have WD := Lib.hid (fun (w' : World) (A' : Ra w' B f) => dword_any A' R c 8 hc (by omega))
  have wr := wordOf_rng R (c * 12 + 8)
  have SE := Lib.hid (fun (w' : World) (A' : Ra w' B f) => dset_any A' c 8 hc (by omega) (wordOf f (c * 12 + 8) + 1) (by omega) (by omega))
  have hA : enA c f = put2 f (c * 12 + 8) ((wordOf f (c * 12 + 8) + 1) % 65536) := rfl
  rw [← hA] at SE
  have RA : Rng (enA c f) := enA_rng R
  have e103 : enA c f 103 = 10 := by rw [enA_ne (by omega) hc]; exact hs
  have ex (j : Nat) (h : 96 ≤ j) : (put1 (enA c f) (c * 12 + 6) v) j = f j := by rw [put1_ne (by omega), enA_ne h hc]
  obtain ⟨x99, hx99⟩ : ∃ x, f 99 = x := ⟨_, rfl⟩
  obtain ⟨x100, hx100⟩ : ∃ x, f 100 = x := ⟨_, rfl⟩
  obtain ⟨x102, hx102⟩ : ∃ x, f 102 = x := ⟨_, rfl⟩
  have r99 := R 99; have r100 := R 100; have r102 := R 102
  rw [hx99] at r99; rw [hx100] at r100; rw [hx102] at r102
  have E99 : Hid ((put1 (enA c f) (c * 12 + 6) v) 99 = x99) := Lib.hid (by rw [ex 99 (by omega)]; exact hx99)
  have E100 : Hid ((put1 (enA c f) (c * 12 + 6) v) 100 = x100) := Lib.hid (by rw [ex 100 (by omega)]; exact hx100)
  have E102 : Hid ((put1 (enA c f) (c * 12 + 6) v) 102 = x102) := Lib.hid (by rw [ex 102 (by omega)]; exact hx102)
  have D2 := Lib.hid (fun w' => dwith_any x102 c hc false w' r102.1 r102.2)
  have BI := Lib.hid (fun w' => bit_any x99 c (by omega) w' r99.1 r99.2)
  rw [hx99] at he
  rw [decide_eq_false he] at BI
  have D1 := Lib.hid (fun w' => dwith_any x100 c hc true w' r100.1 r100.2)
  have hD : ovF c (dsF c (put1 (enA c f) (c * 12 + 6) v)) = put1 (put1 (put1 (enA c f) (c * 12 + 6) v) 100 (pt x100 (bitOf c) true)) 102 (pt x102 (bitOf c) false) := by
    unfold ovF dsF
    rw [pt_true x100 c hc r100.1 r100.2, pt_false, put1_ne (by decide : (102 : Nat) ≠ 100), ex 102 (by omega), ex 100 (by omega), hx100, hx102]
  rw [hD] at H
  obtain ⟨y100, hy100⟩ : ∃ y, pt x100 (bitOf c) true = y := ⟨_, rfl⟩
  rw [hy100] at H D1
  obtain ⟨y102, hy102⟩ : ∃ y, pt x102 (bitOf c) false = y := ⟨_, rfl⟩
  rw [hy102] at H D2
  have BG := Lib.hid H
  obtain ⟨fa, hfa⟩ : ∃ fa, enA c f = fa := ⟨_, rfl⟩
  rw [hfa] at SE e103 BG E99 E100 E102
  have HE := Lib.hid e103
  obtain ⟨x, hx⟩ : ∃ x, wordOf f (c * 12 + 8) = x := ⟨_, rfl⟩
  rw [hx] at WD SE wr
  have wx : IntKind.i64.wrap (x + 1) = x + 1 := by rw [IntKind.wrap_i64]; omega
  have HA := Lib.hid A
  clear A R hA RA hs hfa hx e103 H hx99 hx100 hx102 hy102 r99 r100 r102 hD ex he hy100
  go_enter Try.func56, Try.ntmps56
  go_wp2_with fail
  refine (WD.out _ HA.out).mono ?_
  rintro e w3 ⟨rfl, hb3⟩
  have A3 := Lib.hid (Arr.kept HA.out hb3)
  have U3 := Lib.hid (Upd.ofBelow hb3 B)
  clear hb3 HA WD c103
  go_wp2_with fail
  refine (SE.out _ A3.out).mono ?_
  rintro e w4 ⟨rfl, a4, u4⟩
  have c103 := a4.cell (j := 103) (by omega)
  rw [HE.out] at c103
  have f103 := a4.frozen 103
  have fk := a4.frozen (c * 12 + 6)
  have ck := a4.cell (j := c * 12 + 6) (by omega)
  have a5 := Ra.put1 a4 (i := c * 12 + 6) (by omega) v
  have KF : Hid (∀ w', Below (w4.setCell ⟨B, c * 12 + 6, none⟩ (.int .u8 v)).heap.size (w4.setCell ⟨B, c * 12 + 6, none⟩ (.int .u8 v)) w' → Ra w' B (put1 fa (c * 12 + 6) v)) := Lib.hid (fun w' hb => Arr.kept a5 hb)
  have U5 := Lib.hid ((U3.out.trans u4).set (c * 12 + 6) (.int .u8 v))
  clear a4 u4 A3 U3 SE
  have c99 := (KF.out _ (Below.refl _ _)).cell (j := 99) (by omega)
  rw [E99.out] at c99
  have U6 := U5
  have K6 := KF
  clear KF U5
  go_wp2_with fail
  refine (BI.out _).mono ?_
  rintro e w7 ⟨rfl, hb7⟩
  have a7 := K6.out w7 hb7
  have c100 := a7.cell (j := 100) (by omega)
  rw [E100.out] at c100
  have U7 := Lib.hid (U6.out.trans (Upd.ofBelow hb7 B))
  have K7 : Hid (∀ w', Below w7.heap.size w7 w' → Ra w' B (put1 fa (c * 12 + 6) v)) := Lib.hid (fun w' hb => Arr.kept a7 hb)
  clear a7 hb7 K6 U6 BI c99
  go_wp2_with fail
  refine (D1.out _).mono ?_
  rintro e w8 ⟨rfl, hb8⟩
  have a8 := K7.out w8 hb8
  have c100 := a8.cell (j := 100) (by omega)
  have f100 := a8.frozen 100
  have a9 := Ra.put1 a8 (i := 100) (by omega) y100
  have K9 : Hid (∀ w', Below (w8.setCell ⟨B, 100, none⟩ (.int .u8 y100)).heap.size (w8.setCell ⟨B, 100, none⟩ (.int .u8 y100)) w' → Ra w' B (put1 (put1 fa (c * 12 + 6) v) 100 y100)) := Lib.hid (fun w' hb => Arr.kept a9 hb)
  have U9 := Lib.hid ((U7.out.trans (Upd.ofBelow hb8 B)).set 100 (.int .u8 y100))
  have c102 := a9.cell (j := 102) (by omega)
  rw [put1_ne (by decide), E102.out] at c102
  clear a8 hb8 K7 U7 D1 a9
  go_wp2_with fail
  refine (D2.out _).mono ?_
  rintro e w10 ⟨rfl, hb10⟩
  have a10 := K9.out w10 hb10
  have c102 := a10.cell (j := 102) (by omega)
  have f102 := a10.frozen 102
  have CC := Lib.hid (BG.out _ (Ra.put1 a10 (i := 102) (by omega) y102))
  have U11 := Lib.hid ((U9.out.trans (Upd.ofBelow hb10 B)).set 102 (.int .u8 y102))
  clear a10 hb10 K9 U9 D2 BG
  go_wp2_with fail
  refine CC.out.mono ?_
  rintro e w12 ⟨rfl, a12, u12⟩
  have A12 := Lib.hid a12
  have U12 := Lib.hid (U11.out.trans u12)
  clear a12 u12 CC U11
  go_wp2_with fail
  (first | go_end0 | refine bodyPost_ret (results_none rfl _ _ _) rfl ?_)
  exact ⟨rfl, A12.out, U12.out⟩
end
end Go.Proofs.Ytkeikkkcmackeaa

namespace Go.Proofs.Ytkeikkkcmackeaa
open Go.RowKit
set_option linter.unusedVariables false
set_option linter.unusedSimpArgs false
set_option maxRecDepth 100000
section
variable {w : World} {B : Nat} {f r : Nat → Int}

set_option maxHeartbeats 2000000 in
theorem ddone_none (A : Ra w B f) (hm : f 96 = 0) (hw : f 101 = 0) (v : Int) :
    Calls Try.prog 28 #[at_ B 0, .int .u8 v] w (WroteR w B f (.tuple #[])) := by
  have c96 := A.cell (j := 96) (by omega)
  have c101 := A.cell (j := 101) (by omega)
  rw [hm] at c96
  rw [hw] at c101
  have LE := Lib.hid (fun w' => rleast_any 0 w' (by omega) (by omega))
  rw [low_zero] at LE
  have HA := Lib.hid A
  clear A hm hw
  go_enter Try.func28, Try.ntmps28
  go_wp2_with fail
  refine (LE.out _).mono ?_
  rintro e w2 ⟨rfl, hb2⟩
  have A2 := Lib.hid (Arr.kept HA.out hb2)
  have U2 := Lib.hid (Upd.ofBelow hb2 B)
  clear hb2 HA LE c96 c101
  go_wp2_with fail
  (first | go_end0 | refine bodyPost_ret (results_none rfl _ _ _) rfl ?_)
  exact ⟨rfl, A2.out, U2.out⟩
set_option maxHeartbeats 2000000 in
theorem ddone_tab (A : Ra w B f) (R : Rng f) (c : Nat) (hl : lowC (f 102) = c) (hw : f 101 ≠ 0) (v : Int) (H : ∀ w', Ra w' B f → Calls Try.prog 56 #[at_ B 0, .int .i64 c, .int .u8 v] w' (WroteR w' B r (.tuple #[]))) :
    Calls Try.prog 28 #[at_ B 0, .int .u8 v] w (WroteR w B r (.tuple #[])) := by
  have c101 := A.cell (j := 101) (by omega)
  have c102 := A.cell (j := 102) (by omega)
  have t : (f 101 != 0) = true := by simpa using hw
  have LE := Lib.hid (fun w' => rleast_any (f 102) w' (R 102).1 (R 102).2)
  rw [hl] at LE
  obtain ⟨y1, hy1⟩ : ∃ y, f 101 = y := ⟨_, rfl⟩
  rw [hy1] at c101 t
  obtain ⟨y2, hy2⟩ : ∃ y, f 102 = y := ⟨_, rfl⟩
  rw [hy2] at c102 LE
  have HH := Lib.hid H
  have HA := Lib.hid A
  clear A R hl hw hy1 hy2 H
  go_enter Try.func28, Try.ntmps28
  go_wp2_with fail
  refine (LE.out _).mono ?_
  rintro e w2 ⟨rfl, hb2⟩
  have CC := Lib.hid (HH.out _ (Arr.kept HA.out hb2))
  have U2 := Lib.hid (Upd.ofBelow hb2 B)
  clear hb2 HA LE c101 c102 HH
  go_wp2_with fail
  refine CC.out.mono ?_
  rintro e w3 ⟨rfl, a3, u3⟩
  have A3 := Lib.hid a3
  have U3 := Lib.hid (U2.out.trans u3)
  clear a3 u3
  go_wp2_with fail
  (first | go_end0 | refine bodyPost_ret (results_none rfl _ _ _) rfl ?_)
  exact ⟨rfl, A3.out, U3.out⟩

set_option maxHeartbeats 8000000 in
theorem ddone_0 (A : Ra w B f) (R : Rng f) (c : Nat) (hc : c < 8) (hl : lowC (f 96) = c) (hw : f 101 = 0) (hk : f (c * 12) / 8 % 4 = 0) (v : Int) :
    Calls Try.prog 28 #[at_ B 0, .int .u8 v] w (WroteR w B (doneM c f) (.tuple #[])) := by
  have c96 := A.cell (j := 96) (by omega)
  have c101 := A.cell (j := 101) (by omega)
  rw [hw] at c101
  have zc : (c : Int) < 8 := by omega
  have t8 : ((c : Int) == 8) = false := by simp; omega
  have LE := Lib.hid (fun w' => rleast_any (f 96) w' (R 96).1 (R 96).2)
  rw [hl] at LE
  have K0 : Hid (∀ w', Below w.heap.size w w' → Ra w' B f) := Lib.hid (fun w' hb => Arr.kept A hb)
  have r0 := R (c * 12)
  have m1 : (f (c * 12)).tdiv 8 = f (c * 12) / 8 := Int.tdiv_eq_ediv_of_nonneg r0.1
  have m2 : (f (c * 12) / 8).tmod 4 = f (c * 12) / 8 % 4 := Int.tmod_eq_emod_of_nonneg (by omega)
  have m3 : IntKind.u8.wrap (f (c * 12) / 8) = f (c * 12) / 8 := by rw [IntKind.wrap_u8]; omega
  have m4 : IntKind.u8.wrap (f (c * 12) / 8 % 4) = f (c * 12) / 8 % 4 := by rw [IntKind.wrap_u8]; omega
  have hA : mvA (c * 12) f = put2 f (c * 12 + 2) ((wordOf f (c * 12 + 2) + 1) % 65536) := by unfold mvA; rw [if_pos hk]
  have RA : Rng (mvA (c * 12) f) := mvA_rng R
  have W2 := Lib.hid (fun (w' : World) (A' : Ra w' B f) => dword_any A' R c 2 hc (by omega))
  have wr2 := wordOf_rng R (c * 12 + 2)
  have S2 := Lib.hid (fun (w' : World) (A' : Ra w' B f) => dset_any A' c 2 hc (by omega) (wordOf f (c * 12 + 2) + 1) (by omega) (by omega))
  rw [← hA] at S2
  have e97 : mvA (c * 12) f 97 = f 97 := mvA_ne (by omega) (by omega)
  have e96 : mvA (c * 12) f 96 = f 96 := mvA_ne (by omega) (by omega)
  obtain ⟨fa, hfa⟩ : ∃ fa, mvA (c * 12) f = fa := ⟨_, rfl⟩
  have HFA := Lib.hid hA
  rw [hfa] at RA e97 e96 HFA
  rw [hfa] at S2
  have W5 := Lib.hid (fun (w' : World) (A' : Ra w' B fa) => dword_any A' RA c 5 hc (by omega))
  have wr5 := wordOf_rng RA (c * 12 + 5)
  have S5 := Lib.hid (fun (w' : World) (A' : Ra w' B fa) => dset_any A' c 5 hc (by omega) (wordOf fa (c * 12 + 5) - 1) (by omega) (by omega))
  have RB : Rng (put2 fa (c * 12 + 5) ((wordOf fa (c * 12 + 5) - 1) % 65536)) := RA.put2 _ (by omega) (by omega)
  have b97 : (put2 fa (c * 12 + 5) ((wordOf fa (c * 12 + 5) - 1) % 65536)) 97 = f 97 := by rw [put2_ne (by omega) (by omega)]; exact e97
  have b96 : (put2 fa (c * 12 + 5) ((wordOf fa (c * 12 + 5) - 1) % 65536)) 96 = f 96 := by rw [put2_ne (by omega) (by omega)]; exact e96
  have hB : mvB (c * 12) fa = put2 fa (c * 12 + 5) ((wordOf fa (c * 12 + 5) - 1) % 65536) := rfl
  rw [← hB] at S5 RB b97 b96
  obtain ⟨fb, hfb⟩ : ∃ fb, mvB (c * 12) fa = fb := ⟨_, rfl⟩
  rw [hfb] at S5 RB b97 b96
  have hM : doneM c f = mvD c (mvC fb) := by unfold doneM; rw [hfa, hfb]
  have r97 := R 97; have r96 := R 96
  have hC : mvC fb = put1 fb 97 ((f 97 + 1) % 4) := by unfold mvC; rw [b97]
  have RC : Rng (mvC fb) := by rw [hC]; exact RB.put1 _ (by omega) (by omega)
  have n1 : IntKind.u8.wrap (f 97 + 1) = (f 97 + 1) % 256 := IntKind.wrap_u8 _
  have n2 : ((f 97 + 1) % 256).tmod 4 = (f 97 + 1) % 4 := by rw [Int.tmod_eq_emod_of_nonneg (by omega)]; omega
  have n3 : IntKind.u8.wrap ((f 97 + 1) % 4) = (f 97 + 1) % 4 := by rw [IntKind.wrap_u8]; omega
  obtain ⟨y, hy⟩ : ∃ y, (f 97 + 1) % 256 = y := ⟨_, rfl⟩
  obtain ⟨z, hz⟩ : ∃ z, (f 97 + 1) % 4 = z := ⟨_, rfl⟩
  have z0 : 0 ≤ z := by omega
  have z1 : z < 4 := by omega
  rw [hy] at n1 n2
  rw [hz] at n2 n3 hC
  obtain ⟨x97, hx97⟩ : ∃ x, f 97 = x := ⟨_, rfl⟩
  rw [hx97] at n1 b97
  obtain ⟨x96, hx96⟩ : ∃ x, f 96 = x := ⟨_, rfl⟩
  rw [hx96] at c96 LE b96 r96
  have WC := Lib.hid (fun (w' : World) (A' : Ra w' B (mvC fb)) => dword_any A' RC c 5 hc (by omega))
  have wrc := wordOf_rng RC (c * 12 + 5)
  have DW := Lib.hid (fun w' => dwith_any x96 c hc false w' r96.1 r96.2)
  have c96' : mvC fb 96 = x96 := by rw [hC, put1_ne (by decide)]; exact b96
  have hD1 : wordOf (mvC fb) (c * 12 + 5) = 0 → doneM c f = put1 (put1 (mvC fb) 96 (pt x96 (bitOf c) false)) 97 0 := fun h => by rw [hM]; unfold mvD; rw [if_pos h, pt_false, c96']
  have hD0 : wordOf (mvC fb) (c * 12 + 5) ≠ 0 → doneM c f = mvC fb := fun h => by rw [hM]; unfold mvD; rw [if_neg h]
  obtain ⟨fc, hfc⟩ : ∃ fc, mvC fb = fc := ⟨_, rfl⟩
  rw [hfc] at WC wrc hC c96' hD1 hD0
  obtain ⟨xw, hxw⟩ : ∃ x, wordOf fc (c * 12 + 5) = x := ⟨_, rfl⟩
  rw [hxw] at WC wrc hD1 hD0
  obtain ⟨x5, hx5⟩ : ∃ x, wordOf fa (c * 12 + 5) = x := ⟨_, rfl⟩
  rw [hx5] at W5 wr5 S5
  have wx5 : IntKind.i64.wrap (x5 - 1) = x5 - 1 := by rw [IntKind.wrap_i64]; omega
  obtain ⟨fr, hfr⟩ : ∃ fr, doneM c f = fr := ⟨_, rfl⟩
  rw [hfr] at hD1 hD0 ⊢
  obtain ⟨y96, hy96⟩ : ∃ y, pt x96 (bitOf c) false = y := ⟨_, rfl⟩
  rw [hy96] at DW hD1
  have HC := Lib.hid hC
  have H97 := Lib.hid b97
  have H96 := Lib.hid c96'
  have HD1 := Lib.hid hD1
  have HD0 := Lib.hid hD0
  have cM := A.cell (j := c * 12) (by omega)
  obtain ⟨m, hm⟩ : ∃ m, f (c * 12) = m := ⟨_, rfl⟩
  rw [hm] at m1 m2 m3 m4 hk cM
  obtain ⟨x2, hx2⟩ : ∃ x, wordOf f (c * 12 + 2) = x := ⟨_, rfl⟩
  rw [hx2] at W2 wr2 S2
  have wx2 : IntKind.i64.wrap (x2 + 1) = x2 + 1 := by rw [IntKind.wrap_i64]; omega
  rw [hk] at m2 m4
  have KM : Hid (∀ w', Below w.heap.size w w' → w'.cell? ⟨B, c * 12, none⟩ = some (.int .u8 m)) := Lib.hid (fun w' hb => keepC hb cM)
  clear A R hl hw hk r0 hA RA e97 e96 hfa RB b97 b96 hB hfb hM r97 hC RC hy hz hx97 hx96 c96' hD1 hD0 hfc hxw hx5 hfr hy96 hm cM hx2
  go_enter Try.func28, Try.ntmps28
  go_wp2_with fail
  refine (LE.out _).mono ?_
  rintro e w2 ⟨rfl, hb2⟩
  have A2 := Lib.hid (K0.out w2 hb2)
  have cM := KM.out w2 hb2
  have U2 := Lib.hid (Upd.ofBelow hb2 B)
  clear hb2 K0 LE c96 c101 KM
  go_wp2_with fail
  refine (W2.out _ A2.out).mono ?_
  rintro e w3 ⟨rfl, hb3⟩
  have A3 := Lib.hid (Arr.kept A2.out hb3)
  have U3 := Lib.hid (U2.out.trans (Upd.ofBelow hb3 B))
  clear hb3 A2 U2 W2 cM m1 m2 m3 m4
  go_wp2_with fail
  refine (S2.out _ A3.out).mono ?_
  rintro e w4 ⟨rfl, a4, u4⟩
  have A4 := Lib.hid a4
  have U4 := Lib.hid (U3.out.trans u4)
  clear a4 u4 A3 U3 S2
  go_wp2_with fail
  refine (W5.out _ A4.out).mono ?_
  rintro e w5 ⟨rfl, hb5⟩
  have A5 := Lib.hid (Arr.kept A4.out hb5)
  have U5 := Lib.hid (U4.out.trans (Upd.ofBelow hb5 B))
  clear hb5 A4 U4 W5
  go_wp2_with fail
  refine (S5.out _ A5.out).mono ?_
  rintro e w6 ⟨rfl, a6, u6⟩
  have c97 := a6.cell (j := 97) (by omega)
  rw [H97.out] at c97
  have f97 := a6.frozen 97
  have a7 := Ra.put1 a6 (i := 97) (by omega) z
  rw [← HC.out] at a7
  have A7 := Lib.hid a7
  have U7 := Lib.hid ((U5.out.trans u6).set 97 (.int .u8 z))
  clear a6 u6 A5 U5 S5 a7
  go_wp2_with fail
  refine (WC.out _ A7.out).mono ?_
  rintro e w8 ⟨rfl, hb8⟩
  have U8 := Lib.hid (U7.out.trans (Upd.ofBelow hb8 B))
  have a8 := Arr.kept A7.out hb8
  have c96 := a8.cell (j := 96) (by omega)
  rw [H96.out] at c96
  have A8 := Lib.hid a8
  clear hb8 A7 U7 WC a8 c97 f97
  by_cases h0 : xw = 0
  · have HR := Lib.hid (HD1.out h0)
    subst h0
    clear HD1 HD0
    go_wp2_with fail
    refine (DW.out _).mono ?_
    rintro e w9 ⟨rfl, hb9⟩
    have a9 := Arr.kept A8.out hb9
    have f96 := a9.frozen 96
    have c96 := a9.cell (j := 96) (by omega)
    have a10 := Ra.put1 a9 (i := 96) (by omega) y96
    have f97 := a10.frozen 97
    have c97 := a10.cell (j := 97) (by omega)
    have A11 := Lib.hid (Ra.put1 a10 (i := 97) (by omega) 0)
    have U11 := Lib.hid (((U8.out.trans (Upd.ofBelow hb9 B)).set 96 (.int .u8 y96)).set 97 (.int .u8 0))
    clear hb9 a9 a10 A8 U8 DW
    go_wp2_with fail
    (first | go_end0 | refine bodyPost_ret (results_none rfl _ _ _) rfl ?_)
    rw [HR.out]
    exact ⟨rfl, A11.out, U11.out⟩
  · have HR := Lib.hid (HD0.out h0)
    have t0 : (xw == 0) = false := by simpa using h0
    clear HD1 HD0
    go_wp2_with fail
    (first | go_end0 | refine bodyPost_ret (results_none rfl _ _ _) rfl ?_)
    rw [HR.out]
    exact ⟨rfl, A8.out, U8.out⟩

set_option maxHeartbeats 8000000 in
theorem ddone_2 (A : Ra w B f) (R : Rng f) (c : Nat) (hc : c < 8) (hl : lowC (f 96) = c) (hw : f 101 = 0) (hk : f (c * 12) / 8 % 4 = 2) (v : Int) :
    Calls Try.prog 28 #[at_ B 0, .int .u8 v] w (WroteR w B (doneM c f) (.tuple #[])) := by
  have c96 := A.cell (j := 96) (by omega)
  have c101 := A.cell (j := 101) (by omega)
  rw [hw] at c101
  have zc : (c : Int) < 8 := by omega
  have t8 : ((c : Int) == 8) = false := by simp; omega
  have LE := Lib.hid (fun w' => rleast_any (f 96) w' (R 96).1 (R 96).2)
  rw [hl] at LE
  have K0 : Hid (∀ w', Below w.heap.size w w' → Ra w' B f) := Lib.hid (fun w' hb => Arr.kept A hb)
  have r0 := R (c * 12)
  have m1 : (f (c * 12)).tdiv 8 = f (c * 12) / 8 := Int.tdiv_eq_ediv_of_nonneg r0.1
  have m2 : (f (c * 12) / 8).tmod 4 = f (c * 12) / 8 % 4 := Int.tmod_eq_emod_of_nonneg (by omega)
  have m3 : IntKind.u8.wrap (f (c * 12) / 8) = f (c * 12) / 8 := by rw [IntKind.wrap_u8]; omega
  have m4 : IntKind.u8.wrap (f (c * 12) / 8 % 4) = f (c * 12) / 8 % 4 := by rw [IntKind.wrap_u8]; omega
  have hA : mvA (c * 12) f = put2 f (c * 12 + 2) ((wordOf f (c * 12 + 2) - 1) % 65536) := by unfold mvA; rw [if_neg (by omega), if_pos hk]
  have RA : Rng (mvA (c * 12) f) := mvA_rng R
  have W2 := Lib.hid (fun (w' : World) (A' : Ra w' B f) => dword_any A' R c 2 hc (by omega))
  have wr2 := wordOf_rng R (c * 12 + 2)
  have S2 := Lib.hid (fun (w' : World) (A' : Ra w' B f) => dset_any A' c 2 hc (by omega) (wordOf f (c * 12 + 2) - 1) (by omega) (by omega))
  rw [← hA] at S2
  have e97 : mvA (c * 12) f 97 = f 97 := mvA_ne (by omega) (by omega)
  have e96 : mvA (c * 12) f 96 = f 96 := mvA_ne (by omega) (by omega)
  obtain ⟨fa, hfa⟩ : ∃ fa, mvA (c * 12) f = fa := ⟨_, rfl⟩
  have HFA := Lib.hid hA
  rw [hfa] at RA e97 e96 HFA
  rw [hfa] at S2
  have W5 := Lib.hid (fun (w' : World) (A' : Ra w' B fa) => dword_any A' RA c 5 hc (by omega))
  have wr5 := wordOf_rng RA (c * 12 + 5)
  have S5 := Lib.hid (fun (w' : World) (A' : Ra w' B fa) => dset_any A' c 5 hc (by omega) (wordOf fa (c * 12 + 5) - 1) (by omega) (by omega))
  have RB : Rng (put2 fa (c * 12 + 5) ((wordOf fa (c * 12 + 5) - 1) % 65536)) := RA.put2 _ (by omega) (by omega)
  have b97 : (put2 fa (c * 12 + 5) ((wordOf fa (c * 12 + 5) - 1) % 65536)) 97 = f 97 := by rw [put2_ne (by omega) (by omega)]; exact e97
  have b96 : (put2 fa (c * 12 + 5) ((wordOf fa (c * 12 + 5) - 1) % 65536)) 96 = f 96 := by rw [put2_ne (by omega) (by omega)]; exact e96
  have hB : mvB (c * 12) fa = put2 fa (c * 12 + 5) ((wordOf fa (c * 12 + 5) - 1) % 65536) := rfl
  rw [← hB] at S5 RB b97 b96
  obtain ⟨fb, hfb⟩ : ∃ fb, mvB (c * 12) fa = fb := ⟨_, rfl⟩
  rw [hfb] at S5 RB b97 b96
  have hM : doneM c f = mvD c (mvC fb) := by unfold doneM; rw [hfa, hfb]
  have r97 := R 97; have r96 := R 96
  have hC : mvC fb = put1 fb 97 ((f 97 + 1) % 4) := by unfold mvC; rw [b97]
  have RC : Rng (mvC fb) := by rw [hC]; exact RB.put1 _ (by omega) (by omega)
  have n1 : IntKind.u8.wrap (f 97 + 1) = (f 97 + 1) % 256 := IntKind.wrap_u8 _
  have n2 : ((f 97 + 1) % 256).tmod 4 = (f 97 + 1) % 4 := by rw [Int.tmod_eq_emod_of_nonneg (by omega)]; omega
  have n3 : IntKind.u8.wrap ((f 97 + 1) % 4) = (f 97 + 1) % 4 := by rw [IntKind.wrap_u8]; omega
  obtain ⟨y, hy⟩ : ∃ y, (f 97 + 1) % 256 = y := ⟨_, rfl⟩
  obtain ⟨z, hz⟩ : ∃ z, (f 97 + 1) % 4 = z := ⟨_, rfl⟩
  have z0 : 0 ≤ z := by omega
  have z1 : z < 4 := by omega
  rw [hy] at n1 n2
  rw [hz] at n2 n3 hC
  obtain ⟨x97, hx97⟩ : ∃ x, f 97 = x := ⟨_, rfl⟩
  rw [hx97] at n1 b97
  obtain ⟨x96, hx96⟩ : ∃ x, f 96 = x := ⟨_, rfl⟩
  rw [hx96] at c96 LE b96 r96
  have WC := Lib.hid (fun (w' : World) (A' : Ra w' B (mvC fb)) => dword_any A' RC c 5 hc (by omega))
  have wrc := wordOf_rng RC (c * 12 + 5)
  have DW := Lib.hid (fun w' => dwith_any x96 c hc false w' r96.1 r96.2)
  have c96' : mvC fb 96 = x96 := by rw [hC, put1_ne (by decide)]; exact b96
  have hD1 : wordOf (mvC fb) (c * 12 + 5) = 0 → doneM c f = put1 (put1 (mvC fb) 96 (pt x96 (bitOf c) false)) 97 0 := fun h => by rw [hM]; unfold mvD; rw [if_pos h, pt_false, c96']
  have hD0 : wordOf (mvC fb) (c * 12 + 5) ≠ 0 → doneM c f = mvC fb := fun h => by rw [hM]; unfold mvD; rw [if_neg h]
  obtain ⟨fc, hfc⟩ : ∃ fc, mvC fb = fc := ⟨_, rfl⟩
  rw [hfc] at WC wrc hC c96' hD1 hD0
  obtain ⟨xw, hxw⟩ : ∃ x, wordOf fc (c * 12 + 5) = x := ⟨_, rfl⟩
  rw [hxw] at WC wrc hD1 hD0
  obtain ⟨x5, hx5⟩ : ∃ x, wordOf fa (c * 12 + 5) = x := ⟨_, rfl⟩
  rw [hx5] at W5 wr5 S5
  have wx5 : IntKind.i64.wrap (x5 - 1) = x5 - 1 := by rw [IntKind.wrap_i64]; omega
  obtain ⟨fr, hfr⟩ : ∃ fr, doneM c f = fr := ⟨_, rfl⟩
  rw [hfr] at hD1 hD0 ⊢
  obtain ⟨y96, hy96⟩ : ∃ y, pt x96 (bitOf c) false = y := ⟨_, rfl⟩
  rw [hy96] at DW hD1
  have HC := Lib.hid hC
  have H97 := Lib.hid b97
  have H96 := Lib.hid c96'
  have HD1 := Lib.hid hD1
  have HD0 := Lib.hid hD0
  have cM := A.cell (j := c * 12) (by omega)
  obtain ⟨m, hm⟩ : ∃ m, f (c * 12) = m := ⟨_, rfl⟩
  rw [hm] at m1 m2 m3 m4 hk cM
  obtain ⟨x2, hx2⟩ : ∃ x, wordOf f (c * 12 + 2) = x := ⟨_, rfl⟩
  rw [hx2] at W2 wr2 S2
  have wx2 : IntKind.i64.wrap (x2 - 1) = x2 - 1 := by rw [IntKind.wrap_i64]; omega
  rw [hk] at m2 m4
  have KM : Hid (∀ w', Below w.heap.size w w' → w'.cell? ⟨B, c * 12, none⟩ = some (.int .u8 m)) := Lib.hid (fun w' hb => keepC hb cM)
  clear A R hl hw hk r0 hA RA e97 e96 hfa RB b97 b96 hB hfb hM r97 hC RC hy hz hx97 hx96 c96' hD1 hD0 hfc hxw hx5 hfr hy96 hm cM hx2
  go_enter Try.func28, Try.ntmps28
  go_wp2_with fail
  refine (LE.out _).mono ?_
  rintro e w2 ⟨rfl, hb2⟩
  have A2 := Lib.hid (K0.out w2 hb2)
  have cM := KM.out w2 hb2
  have U2 := Lib.hid (Upd.ofBelow hb2 B)
  clear hb2 K0 LE c96 c101 KM
  go_wp2_with fail
  refine (W2.out _ A2.out).mono ?_
  rintro e w3 ⟨rfl, hb3⟩
  have A3 := Lib.hid (Arr.kept A2.out hb3)
  have U3 := Lib.hid (U2.out.trans (Upd.ofBelow hb3 B))
  clear hb3 A2 U2 W2 cM m1 m2 m3 m4
  go_wp2_with fail
  refine (S2.out _ A3.out).mono ?_
  rintro e w4 ⟨rfl, a4, u4⟩
  have A4 := Lib.hid a4
  have U4 := Lib.hid (U3.out.trans u4)
  clear a4 u4 A3 U3 S2
  go_wp2_with fail
  refine (W5.out _ A4.out).mono ?_
  rintro e w5 ⟨rfl, hb5⟩
  have A5 := Lib.hid (Arr.kept A4.out hb5)
  have U5 := Lib.hid (U4.out.trans (Upd.ofBelow hb5 B))
  clear hb5 A4 U4 W5
  go_wp2_with fail
  refine (S5.out _ A5.out).mono ?_
  rintro e w6 ⟨rfl, a6, u6⟩
  have c97 := a6.cell (j := 97) (by omega)
  rw [H97.out] at c97
  have f97 := a6.frozen 97
  have a7 := Ra.put1 a6 (i := 97) (by omega) z
  rw [← HC.out] at a7
  have A7 := Lib.hid a7
  have U7 := Lib.hid ((U5.out.trans u6).set 97 (.int .u8 z))
  clear a6 u6 A5 U5 S5 a7
  go_wp2_with fail
  refine (WC.out _ A7.out).mono ?_
  rintro e w8 ⟨rfl, hb8⟩
  have U8 := Lib.hid (U7.out.trans (Upd.ofBelow hb8 B))
  have a8 := Arr.kept A7.out hb8
  have c96 := a8.cell (j := 96) (by omega)
  rw [H96.out] at c96
  have A8 := Lib.hid a8
  clear hb8 A7 U7 WC a8 c97 f97
  by_cases h0 : xw = 0
  · have HR := Lib.hid (HD1.out h0)
    subst h0
    clear HD1 HD0
    go_wp2_with fail
    refine (DW.out _).mono ?_
    rintro e w9 ⟨rfl, hb9⟩
    have a9 := Arr.kept A8.out hb9
    have f96 := a9.frozen 96
    have c96 := a9.cell (j := 96) (by omega)
    have a10 := Ra.put1 a9 (i := 96) (by omega) y96
    have f97 := a10.frozen 97
    have c97 := a10.cell (j := 97) (by omega)
    have A11 := Lib.hid (Ra.put1 a10 (i := 97) (by omega) 0)
    have U11 := Lib.hid (((U8.out.trans (Upd.ofBelow hb9 B)).set 96 (.int .u8 y96)).set 97 (.int .u8 0))
    clear hb9 a9 a10 A8 U8 DW
    go_wp2_with fail
    (first | go_end0 | refine bodyPost_ret (results_none rfl _ _ _) rfl ?_)
    rw [HR.out]
    exact ⟨rfl, A11.out, U11.out⟩
  · have HR := Lib.hid (HD0.out h0)
    have t0 : (xw == 0) = false := by simpa using h0
    clear HD1 HD0
    go_wp2_with fail
    (first | go_end0 | refine bodyPost_ret (results_none rfl _ _ _) rfl ?_)
    rw [HR.out]
    exact ⟨rfl, A8.out, U8.out⟩

set_option maxHeartbeats 8000000 in
theorem ddone_13 (A : Ra w B f) (R : Rng f) (c : Nat) (hc : c < 8) (hl : lowC (f 96) = c) (hw : f 101 = 0) (hk : f (c * 12) / 8 % 4 ≠ 0 ∧ f (c * 12) / 8 % 4 ≠ 2) (v : Int) :
    Calls Try.prog 28 #[at_ B 0, .int .u8 v] w (WroteR w B (doneM c f) (.tuple #[])) := by
  have c96 := A.cell (j := 96) (by omega)
  have c101 := A.cell (j := 101) (by omega)
  rw [hw] at c101
  have zc : (c : Int) < 8 := by omega
  have t8 : ((c : Int) == 8) = false := by simp; omega
  have LE := Lib.hid (fun w' => rleast_any (f 96) w' (R 96).1 (R 96).2)
  rw [hl] at LE
  have K0 : Hid (∀ w', Below w.heap.size w w' → Ra w' B f) := Lib.hid (fun w' hb => Arr.kept A hb)
  have r0 := R (c * 12)
  have m1 : (f (c * 12)).tdiv 8 = f (c * 12) / 8 := Int.tdiv_eq_ediv_of_nonneg r0.1
  have m2 : (f (c * 12) / 8).tmod 4 = f (c * 12) / 8 % 4 := Int.tmod_eq_emod_of_nonneg (by omega)
  have m3 : IntKind.u8.wrap (f (c * 12) / 8) = f (c * 12) / 8 := by rw [IntKind.wrap_u8]; omega
  have m4 : IntKind.u8.wrap (f (c * 12) / 8 % 4) = f (c * 12) / 8 % 4 := by rw [IntKind.wrap_u8]; omega
  have hA : mvA (c * 12) f = f := by unfold mvA; rw [if_neg hk.1, if_neg hk.2]
  have RA : Rng (mvA (c * 12) f) := mvA_rng R
  have e97 : mvA (c * 12) f 97 = f 97 := mvA_ne (by omega) (by omega)
  have e96 : mvA (c * 12) f 96 = f 96 := mvA_ne (by omega) (by omega)
  obtain ⟨fa, hfa⟩ : ∃ fa, mvA (c * 12) f = fa := ⟨_, rfl⟩
  have HFA := Lib.hid hA
  rw [hfa] at RA e97 e96 HFA
  skip
  have W5 := Lib.hid (fun (w' : World) (A' : Ra w' B fa) => dword_any A' RA c 5 hc (by omega))
  have wr5 := wordOf_rng RA (c * 12 + 5)
  have S5 := Lib.hid (fun (w' : World) (A' : Ra w' B fa) => dset_any A' c 5 hc (by omega) (wordOf fa (c * 12 + 5) - 1) (by omega) (by omega))
  have RB : Rng (put2 fa (c * 12 + 5) ((wordOf fa (c * 12 + 5) - 1) % 65536)) := RA.put2 _ (by omega) (by omega)
  have b97 : (put2 fa (c * 12 + 5) ((wordOf fa (c * 12 + 5) - 1) % 65536)) 97 = f 97 := by rw [put2_ne (by omega) (by omega)]; exact e97
  have b96 : (put2 fa (c * 12 + 5) ((wordOf fa (c * 12 + 5) - 1) % 65536)) 96 = f 96 := by rw [put2_ne (by omega) (by omega)]; exact e96
  have hB : mvB (c * 12) fa = put2 fa (c * 12 + 5) ((wordOf fa (c * 12 + 5) - 1) % 65536) := rfl
  rw [← hB] at S5 RB b97 b96
  obtain ⟨fb, hfb⟩ : ∃ fb, mvB (c * 12) fa = fb := ⟨_, rfl⟩
  rw [hfb] at S5 RB b97 b96
  have hM : doneM c f = mvD c (mvC fb) := by unfold doneM; rw [hfa, hfb]
  have r97 := R 97; have r96 := R 96
  have hC : mvC fb = put1 fb 97 ((f 97 + 1) % 4) := by unfold mvC; rw [b97]
  have RC : Rng (mvC fb) := by rw [hC]; exact RB.put1 _ (by omega) (by omega)
  have n1 : IntKind.u8.wrap (f 97 + 1) = (f 97 + 1) % 256 := IntKind.wrap_u8 _
  have n2 : ((f 97 + 1) % 256).tmod 4 = (f 97 + 1) % 4 := by rw [Int.tmod_eq_emod_of_nonneg (by omega)]; omega
  have n3 : IntKind.u8.wrap ((f 97 + 1) % 4) = (f 97 + 1) % 4 := by rw [IntKind.wrap_u8]; omega
  obtain ⟨y, hy⟩ : ∃ y, (f 97 + 1) % 256 = y := ⟨_, rfl⟩
  obtain ⟨z, hz⟩ : ∃ z, (f 97 + 1) % 4 = z := ⟨_, rfl⟩
  have z0 : 0 ≤ z := by omega
  have z1 : z < 4 := by omega
  rw [hy] at n1 n2
  rw [hz] at n2 n3 hC
  obtain ⟨x97, hx97⟩ : ∃ x, f 97 = x := ⟨_, rfl⟩
  rw [hx97] at n1 b97
  obtain ⟨x96, hx96⟩ : ∃ x, f 96 = x := ⟨_, rfl⟩
  rw [hx96] at c96 LE b96 r96
  have WC := Lib.hid (fun (w' : World) (A' : Ra w' B (mvC fb)) => dword_any A' RC c 5 hc (by omega))
  have wrc := wordOf_rng RC (c * 12 + 5)
  have DW := Lib.hid (fun w' => dwith_any x96 c hc false w' r96.1 r96.2)
  have c96' : mvC fb 96 = x96 := by rw [hC, put1_ne (by decide)]; exact b96
  have hD1 : wordOf (mvC fb) (c * 12 + 5) = 0 → doneM c f = put1 (put1 (mvC fb) 96 (pt x96 (bitOf c) false)) 97 0 := fun h => by rw [hM]; unfold mvD; rw [if_pos h, pt_false, c96']
  have hD0 : wordOf (mvC fb) (c * 12 + 5) ≠ 0 → doneM c f = mvC fb := fun h => by rw [hM]; unfold mvD; rw [if_neg h]
  obtain ⟨fc, hfc⟩ : ∃ fc, mvC fb = fc := ⟨_, rfl⟩
  rw [hfc] at WC wrc hC c96' hD1 hD0
  obtain ⟨xw, hxw⟩ : ∃ x, wordOf fc (c * 12 + 5) = x := ⟨_, rfl⟩
  rw [hxw] at WC wrc hD1 hD0
  obtain ⟨x5, hx5⟩ : ∃ x, wordOf fa (c * 12 + 5) = x := ⟨_, rfl⟩
  rw [hx5] at W5 wr5 S5
  have wx5 : IntKind.i64.wrap (x5 - 1) = x5 - 1 := by rw [IntKind.wrap_i64]; omega
  obtain ⟨fr, hfr⟩ : ∃ fr, doneM c f = fr := ⟨_, rfl⟩
  rw [hfr] at hD1 hD0 ⊢
  obtain ⟨y96, hy96⟩ : ∃ y, pt x96 (bitOf c) false = y := ⟨_, rfl⟩
  rw [hy96] at DW hD1
  have HC := Lib.hid hC
  have H97 := Lib.hid b97
  have H96 := Lib.hid c96'
  have HD1 := Lib.hid hD1
  have HD0 := Lib.hid hD0
  have cM := A.cell (j := c * 12) (by omega)
  obtain ⟨m, hm⟩ : ∃ m, f (c * 12) = m := ⟨_, rfl⟩
  rw [hm] at m1 m2 m3 m4 hk cM
  obtain ⟨q, hq⟩ : ∃ q, m / 8 % 4 = q := ⟨_, rfl⟩
  rw [hq] at m2 m4 hk
  have q0 : (q == 0) = false := by simpa using hk.1
  have q2 : (q == 2) = false := by simpa using hk.2
  have KM : Hid (∀ w', Below w.heap.size w w' → w'.cell? ⟨B, c * 12, none⟩ = some (.int .u8 m)) := Lib.hid (fun w' hb => keepC hb cM)
  clear A R hl hw hk r0 hA RA e97 e96 hfa RB b97 b96 hB hfb hM r97 hC RC hy hz hx97 hx96 c96' hD1 hD0 hfc hxw hx5 hfr hy96 hm cM hq
  go_enter Try.func28, Try.ntmps28
  go_wp2_with fail
  refine (LE.out _).mono ?_
  rintro e w2 ⟨rfl, hb2⟩
  have A2 := Lib.hid (K0.out w2 hb2)
  have cM := KM.out w2 hb2
  have U2 := Lib.hid (Upd.ofBelow hb2 B)
  clear hb2 K0 LE c96 c101 KM
  go_wp2_with fail
  have A4 : Hid (Ra w2 B fa) := Lib.hid (by rw [HFA.out]; exact A2.out)
  have U4 := U2
  clear A2 U2 cM m1 m2 m3 m4
  refine (W5.out _ A4.out).mono ?_
  rintro e w5 ⟨rfl, hb5⟩
  have A5 := Lib.hid (Arr.kept A4.out hb5)
  have U5 := Lib.hid (U4.out.trans (Upd.ofBelow hb5 B))
  clear hb5 A4 U4 W5
  go_wp2_with fail
  refine (S5.out _ A5.out).mono ?_
  rintro e w6 ⟨rfl, a6, u6⟩
  have c97 := a6.cell (j := 97) (by omega)
  rw [H97.out] at c97
  have f97 := a6.frozen 97
  have a7 := Ra.put1 a6 (i := 97) (by omega) z
  rw [← HC.out] at a7
  have A7 := Lib.hid a7
  have U7 := Lib.hid ((U5.out.trans u6).set 97 (.int .u8 z))
  clear a6 u6 A5 U5 S5 a7
  go_wp2_with fail
  refine (WC.out _ A7.out).mono ?_
  rintro e w8 ⟨rfl, hb8⟩
  have U8 := Lib.hid (U7.out.trans (Upd.ofBelow hb8 B))
  have a8 := Arr.kept A7.out hb8
  have c96 := a8.cell (j := 96) (by omega)
  rw [H96.out] at c96
  have A8 := Lib.hid a8
  clear hb8 A7 U7 WC a8 c97 f97
  by_cases h0 : xw = 0
  · have HR := Lib.hid (HD1.out h0)
    subst h0
    clear HD1 HD0
    go_wp2_with fail
    refine (DW.out _).mono ?_
    rintro e w9 ⟨rfl, hb9⟩
    have a9 := Arr.kept A8.out hb9
    have f96 := a9.frozen 96
    have c96 := a9.cell (j := 96) (by omega)
    have a10 := Ra.put1 a9 (i := 96) (by omega) y96
    have f97 := a10.frozen 97
    have c97 := a10.cell (j := 97) (by omega)
    have A11 := Lib.hid (Ra.put1 a10 (i := 97) (by omega) 0)
    have U11 := Lib.hid (((U8.out.trans (Upd.ofBelow hb9 B)).set 96 (.int .u8 y96)).set 97 (.int .u8 0))
    clear hb9 a9 a10 A8 U8 DW
    go_wp2_with fail
    (first | go_end0 | refine bodyPost_ret (results_none rfl _ _ _) rfl ?_)
    rw [HR.out]
    exact ⟨rfl, A11.out, U11.out⟩
  · have HR := Lib.hid (HD0.out h0)
    have t0 : (xw == 0) = false := by simpa using h0
    clear HD1 HD0
    go_wp2_with fail
    (first | go_end0 | refine bodyPost_ret (results_none rfl _ _ _) rfl ?_)
    rw [HR.out]
    exact ⟨rfl, A8.out, U8.out⟩

theorem ddone_move (A : Ra w B f) (R : Rng f) (c : Nat) (hc : c < 8) (hl : lowC (f 96) = c) (hw : f 101 = 0) (v : Int) :
    Calls Try.prog 28 #[at_ B 0, .int .u8 v] w (WroteR w B (doneM c f) (.tuple #[])) := by
  by_cases k0 : f (c * 12) / 8 % 4 = 0
  · exact ddone_0 A R c hc hl hw k0 v
  by_cases k2 : f (c * 12) / 8 % 4 = 2
  · exact ddone_2 A R c hc hl hw k2 v
  · exact ddone_13 A R c hc hl hw ⟨k0, k2⟩ v
/-- Done with a table under way. -/
theorem ddone_st (A : Ra w B f) (I : Inv f) (hw : f 101 ≠ 0) (v : Int) (v0 : 0 ≤ v) (v1 : v ≤ 255) (HB1 : (stF v f).1 = true → DBeg B (stF v f).2 r) (HB0 : (stF v f).1 = false → r = (stF v f).2) :
    Calls Try.prog 28 #[at_ B 0, .int .u8 v] w (WroteR w B r (.tuple #[])) := by
  have W := I.wt hw
  have R := I.r
  obtain ⟨c, hcc⟩ : ∃ c, lowC (f 102) = c := ⟨_, rfl⟩
  rw [hcc] at W
  have hc := W.hc
  refine ddone_tab A R c hcc hw v (fun w' A' => ?_)
  unfold stF at HB1 HB0
  rw [hcc] at HB1 HB0
  by_cases hs : f 103 < 8
  · rw [if_pos hs] at HB1 HB0
    cases hm : indB f c
    · exact dunit_dir A' R c hc hm hs v HB1 HB0
    · exact dunit_ind A' R c hc hm hs v HB1 HB0
  · rw [if_neg hs] at HB1 HB0
    unfold enF at HB1 HB0
    by_cases h8 : f 103 = 8
    · rw [if_pos h8] at HB1 HB0
      by_cases hv : v = 0
      · rw [if_pos hv] at HB1 HB0
        exact dentry_zero A' R c hc h8 v v0 v1 hv (HB1 rfl)
      · rw [if_neg hv] at HB1 HB0
        cases hm : indB f c
        · rw [if_neg (by rw [hm]; decide)] at HB1 HB0
          exact dentry_dir A' R c hc h8 v v0 v1 hm hv W.ec (HB1 rfl)
        · rw [if_pos hm] at HB1 HB0
          exact dentry_ind A' R c hc h8 v v0 v1 hm hv (HB0 rfl)
    · rw [if_neg h8] at HB1 HB0
      by_cases h9 : f 103 = 9
      · rw [if_pos h9] at HB1 HB0
        exact dentry_nine A' R c hc h9 v v0 v1 (HB0 rfl)
      · rw [if_neg h9] at HB1 HB0
        have h10 : f 103 = 10 := by have := W.s10; omega
        exact dentry_ten A' R c hc h10 v v0 v1 W.ec (HB1 rfl)
end
end Go.Proofs.Ytkeikkkcmackeaa
