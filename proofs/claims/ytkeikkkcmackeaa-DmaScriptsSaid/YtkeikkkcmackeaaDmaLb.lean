/- dma, the program's: a byte of a line, of an entry; Done; Frame, Line; Next: at every state. -/
import Derived.Test.YtkeikkkcmackeaaDmaKcs
import Derived.Test.YtkeikkkcmackeaaDmaLa
namespace Go.Proofs.Ytkeikkkcmackeaa
open Go.RowKit
set_option linter.unusedVariables false
set_option linter.unusedSimpArgs false
set_option maxRecDepth 100000
section
variable {w : World} {g : Nat} {f r : Nat → Int}
set_option maxHeartbeats 4000000 in
theorem unit_dir (A : Da w g f) (R : Rng f) (c : Nat) (hc : c < 8) (hb : First (f 102) c) (hm : indB f c = false) (hs : f 103 < 8) (v : Int) (HB1 : (utF c f).1 = true → Beg r (utF c f).2) (HB0 : (utF c f).1 = false → r = (utF c f).2) :
    Calls Try.prog 41 #[.pointer (some ⟨g, 0, none⟩), .int .u8 v] w (Wrote w g r (.tuple #[])) := by
  obtain ⟨b0, b1⟩ := bitOf_rng c hc
  have c102 := A.cell (j := 102) (by omega)
  have LE := Lib.hid (fun (w' : World) (A' : Da w' g f) => least_any A' c hc (f 102) hb)
  have NX := Lib.hid (fun (w' : World) (A' : Da w' g f) => next_any A' R (o := c * 12) 8 (by omega) (by omega))
  have rm := R (c * 12)
  have e64 := and64 (f (c * 12)) rm.1 rm.2
  have hm' : f (c * 12) / 64 % 2 = 0 := by
    have e : bitN (f (c * 12)) 6 = f (c * 12) / 64 % 2 := by unfold bitN; simp
    unfold indB at hm
    rw [← e]
    have := bitN_01 (f (c * 12)) 6
    simp at hm
    omega
  rw [hm'] at e64
  simp only [Int.zero_mul, Int.one_mul] at e64
  have wr := wordOf_rng R (c * 12 + 8)
  have R1 : Rng (put2 f (c * 12 + 8) ((wordOf f (c * 12 + 8) + 1) % 65536)) := R.put2 _ (by omega) (by omega)
  have r103 := R 103
  have hA : utA c f = put2 f (c * 12 + 8) ((wordOf f (c * 12 + 8) + 1) % 65536) := by unfold utA; rw [hm]; rfl
  have RU : Rng (utB c f) := by unfold utB; rw [hA]; exact R1.put1 _ (by omega) (by omega)
  have e103 : (put2 f (c * 12 + 8) ((wordOf f (c * 12 + 8) + 1) % 65536)) 103 = f 103 := put2_ne (by omega) (by omega)
  have hU : utB c f = put1 (put2 f (c * 12 + 8) ((wordOf f (c * 12 + 8) + 1) % 65536)) 103 (f 103 + 1) := by unfold utB; rw [hA]
  have um : utB c f (c * 12) = f (c * 12) := by rw [hU, put1_ne (by omega), put2_ne (by omega) (by omega)]
  have u103 : utB c f 103 = f 103 + 1 := by rw [hU, put1_at, if_pos rfl]
  have hq1 : lenOf (f (c * 12)) ≤ f 103 + 1 → utF c f = cntF c (utB c f) := fun h => by unfold utF; rw [if_pos h]
  have hq0 : ¬ lenOf (f (c * 12)) ≤ f 103 + 1 → utF c f = (false, utB c f) := fun h => by unfold utF; rw [if_neg h]
  obtain ⟨f1, hf1⟩ : ∃ f1, put2 f (c * 12 + 8) ((wordOf f (c * 12 + 8) + 1) % 65536) = f1 := ⟨_, rfl⟩
  rw [hf1] at NX hU e103 R1
  obtain ⟨n, hn⟩ : ∃ n, f 103 = n := ⟨_, rfl⟩
  rw [hn] at hU e103 r103 u103 hq1 hq0 hs
  obtain ⟨z, hz⟩ : ∃ z, n + 1 = z := ⟨_, rfl⟩
  have z0 : 0 ≤ z := by omega
  have z1 : z ≤ 255 := by omega
  have ew : IntKind.u8.wrap (n + 1) = z := by rw [IntKind.wrap_u8]; omega
  rw [hz] at hU u103 hq1 hq0
  have CN := Lib.hid (fun (w' : World) (A' : Da w' g (utB c f)) => counted_any A' RU c hc)
  have LG := Lib.hid (fun (w' : World) (A' : Da w' g (utB c f)) => length_any A' RU (o := c * 12) (by omega))
  rw [um] at LG
  have RC : Rng (cntF c (utB c f)).2 := cntF_rng RU c hc
  obtain ⟨⟨b, f3⟩, hcn⟩ : ∃ q, cntF c (utB c f) = q := ⟨_, rfl⟩
  rw [hcn] at CN hq1 RC
  simp only at CN RC
  obtain ⟨fu, hfu⟩ : ∃ fu, utB c f = fu := ⟨_, rfl⟩
  rw [hfu] at CN LG hU um u103 hq0
  have pr := lenOf_rng (f (c * 12))
  obtain ⟨ln, hln⟩ : ∃ ln, lenOf (f (c * 12)) = ln := ⟨_, rfl⟩
  rw [hln] at LG pr hq1 hq0
  obtain ⟨p0, p1⟩ := pr
  have G1 : Hid (ln ≤ z → (b = true → Beg r f3) ∧ (b = false → r = f3)) := Lib.hid (fun h => by
    have e := hq1 h
    rw [e] at HB1 HB0
    exact ⟨HB1, HB0⟩)
  have G0 : Hid (¬ ln ≤ z → r = fu) := Lib.hid (fun h => by
    have e := hq0 h
    rw [e] at HB0
    exact HB0 rfl)
  have HRC := Lib.hid RC
  have HU := Lib.hid hU
  have H103 := Lib.hid e103
  have HU3 := Lib.hid u103
  have HA := Lib.hid A
  have cm0 := A.cell (j := c * 12) (by omega)
  obtain ⟨x2, hx2⟩ : ∃ x, f 102 = x := ⟨_, rfl⟩
  rw [hx2] at c102 LE
  clear A R R1 RU hU um u103 hf1 hn hz hcn hfu hln e103 hb hm hm' rm wr r103 hx2 HB1 HB0 hq1 hq0 hA hs RC
  go_enter Try.func41, Try.ntmps41
  go_wp2_with fail
  refine (LE.out _ HA.out).mono ?_
  rintro e w1 ⟨rfl, hb1⟩
  have A1 := Lib.hid (HA.out.kept hb1)
  have cm := keepC hb1 cm0
  have U1 := Lib.hid (Upd.ofBelow hb1 g)
  clear hb1 HA LE c102 cm0
  go_wp2_with fail
  refine (NX.out _ A1.out).mono ?_
  rintro e w2 ⟨rfl, a2, u2⟩
  have c103 := a2.cell (j := 103) (by omega)
  rw [H103.out] at c103
  have f103 := a2.frozen 103
  have a3 := a2.put1 (i := 103) (by omega) z
  rw [← HU.out] at a3
  have k103 := a3.cell (j := 103) (by omega)
  rw [HU3.out] at k103
  have A3 := Lib.hid a3
  have U3 := Lib.hid ((U1.out.trans u2).set 103 (.int .u8 z))
  clear a2 u2 a3 A1 U1 NX cm
  go_upto_region 5 with (fail)
  obtain ⟨W3, hW3⟩ : ∃ W3, W3 = w2.setCell ⟨g, 103, none⟩ (.int .u8 z) := ⟨_, rfl⟩
  rw [← hW3] at A3 U3 k103 ⊢
  clear hW3 c103 f103
  by_cases hl : ln ≤ z
  · have GG := Lib.hid (G1.out hl)
    clear G1 G0
    go_cut [44] from 32 to 44 (fun s wx => s = .bool b ∧ Da wx g f3 ∧ Upd W3 g wx)
    case first =>
      obtain ⟨wd, hwd⟩ : ∃ wd, wd = W3.drew := ⟨_, rfl⟩
      have k103d : wd.cell? ⟨g, 103, none⟩ = some (.int .u8 z) := by rw [hwd]; exact k103
      have AD : Hid (Da wd g fu) := by rw [hwd]; exact A3.out
      have UD : Hid (Upd W3 g wd) := by rw [hwd]; exact (Upd.refl _ _).drew
      have CB2 := LG.out _ AD.out
      have CC2 := Lib.hid (CN.out _ AD.out)
      clear k103
      refine wp_region_still_tail 11 (by kernel_rfl) (by kernel_rfl) ?_
      change wpStill _ _ (World.drew _) (fun a' => wpList _ _ _ _ a' (World.drew _)) _ _
      rw [← hwd]
      clear hwd
      simp only [List.take_succ_cons, List.take_zero, List.drop_succ_cons, List.drop_zero]
      repeat still_step
      still_call CB2
      repeat still_step
      refine wpStill_nil ?_
      go_wp2_with fail
      refine CC2.out.mono ?_
      rintro e w4 ⟨rfl, a4, u4⟩
      have A4 := Lib.hid a4
      have U4 := Lib.hid (UD.out.trans u4)
      clear a4 u4
      go_wp2_with fail
      go_meet
      exact ⟨rfl, A4.out, U4.out⟩
    case rest =>
      obtain ⟨rfl, a4, u4⟩ := hcut
      have A4 := Lib.hid a4
      have U4 := Lib.hid (U3.out.trans u4)
      cases b
      · have HR := Lib.hid (GG.out.2 rfl)
        clear a4 u4 k103 A3 U3 GG
        go_wp2_with fail
        go_end0
        rw [HR.out]
        exact ⟨rfl, A4.out, U4.out⟩
      · have BG := Lib.hid (begin_gen a4 HRC.out (GG.out.1 rfl))
        clear a4 u4 k103 A3 U3 GG
        go_wp2_with fail
        refine BG.out.mono ?_
        rintro e w5 ⟨rfl, a5, u5⟩
        have A5 := Lib.hid a5
        have U5 := Lib.hid (U4.out.trans u5)
        clear a5 u5
        go_wp2_with fail
        go_end0
        exact ⟨rfl, A5.out, U5.out⟩
  · have HR := Lib.hid (G0.out (by omega))
    clear G1 G0
    go_cut [44] from 32 to 44 (fun s wx => s = .bool false ∧ Da wx g fu ∧ Upd W3 g wx)
    case first =>
      obtain ⟨wd, hwd⟩ : ∃ wd, wd = W3.drew := ⟨_, rfl⟩
      have k103d : wd.cell? ⟨g, 103, none⟩ = some (.int .u8 z) := by rw [hwd]; exact k103
      have AD : Hid (Da wd g fu) := by rw [hwd]; exact A3.out
      have UD : Hid (Upd W3 g wd) := by rw [hwd]; exact (Upd.refl _ _).drew
      have CB2 := LG.out _ AD.out
      clear k103
      refine wp_region_still_tail 11 (by kernel_rfl) (by kernel_rfl) ?_
      change wpStill _ _ (World.drew _) (fun a' => wpList _ _ _ _ a' (World.drew _)) _ _
      rw [← hwd]
      clear hwd
      simp only [List.take_succ_cons, List.take_zero, List.drop_succ_cons, List.drop_zero]
      repeat still_step
      still_call CB2
      repeat still_step
      refine wpStill_nil ?_
      go_wp2_with fail
      go_meet
      exact ⟨rfl, AD.out, UD.out⟩
    case rest =>
      obtain ⟨rfl, a4, u4⟩ := hcut
      have A4 := Lib.hid a4
      have U4 := Lib.hid (U3.out.trans u4)
      clear a4 u4 k103 A3 U3
      go_wp2_with fail
      go_end0
      rw [HR.out]
      exact ⟨rfl, A4.out, U4.out⟩
set_option maxHeartbeats 4000000 in
theorem unit_ind (A : Da w g f) (R : Rng f) (c : Nat) (hc : c < 8) (hb : First (f 102) c) (hm : indB f c = true) (hs : f 103 < 8) (v : Int) (HB1 : (utF c f).1 = true → Beg r (utF c f).2) (HB0 : (utF c f).1 = false → r = (utF c f).2) :
    Calls Try.prog 41 #[.pointer (some ⟨g, 0, none⟩), .int .u8 v] w (Wrote w g r (.tuple #[])) := by
  obtain ⟨b0, b1⟩ := bitOf_rng c hc
  have c102 := A.cell (j := 102) (by omega)
  have LE := Lib.hid (fun (w' : World) (A' : Da w' g f) => least_any A' c hc (f 102) hb)
  have NX := Lib.hid (fun (w' : World) (A' : Da w' g f) => next_any A' R (o := c * 12) 5 (by omega) (by omega))
  have rm := R (c * 12)
  have e64 := and64 (f (c * 12)) rm.1 rm.2
  have hm' : f (c * 12) / 64 % 2 = 1 := by
    have e : bitN (f (c * 12)) 6 = f (c * 12) / 64 % 2 := by unfold bitN; simp
    unfold indB at hm
    rw [← e]
    have := bitN_01 (f (c * 12)) 6
    simp at hm
    omega
  rw [hm'] at e64
  simp only [Int.zero_mul, Int.one_mul] at e64
  have wr := wordOf_rng R (c * 12 + 5)
  have R1 : Rng (put2 f (c * 12 + 5) ((wordOf f (c * 12 + 5) + 1) % 65536)) := R.put2 _ (by omega) (by omega)
  have r103 := R 103
  have hA : utA c f = put2 f (c * 12 + 5) ((wordOf f (c * 12 + 5) + 1) % 65536) := by unfold utA; rw [hm]; rfl
  have RU : Rng (utB c f) := by unfold utB; rw [hA]; exact R1.put1 _ (by omega) (by omega)
  have e103 : (put2 f (c * 12 + 5) ((wordOf f (c * 12 + 5) + 1) % 65536)) 103 = f 103 := put2_ne (by omega) (by omega)
  have hU : utB c f = put1 (put2 f (c * 12 + 5) ((wordOf f (c * 12 + 5) + 1) % 65536)) 103 (f 103 + 1) := by unfold utB; rw [hA]
  have um : utB c f (c * 12) = f (c * 12) := by rw [hU, put1_ne (by omega), put2_ne (by omega) (by omega)]
  have u103 : utB c f 103 = f 103 + 1 := by rw [hU, put1_at, if_pos rfl]
  have hq1 : lenOf (f (c * 12)) ≤ f 103 + 1 → utF c f = cntF c (utB c f) := fun h => by unfold utF; rw [if_pos h]
  have hq0 : ¬ lenOf (f (c * 12)) ≤ f 103 + 1 → utF c f = (false, utB c f) := fun h => by unfold utF; rw [if_neg h]
  obtain ⟨f1, hf1⟩ : ∃ f1, put2 f (c * 12 + 5) ((wordOf f (c * 12 + 5) + 1) % 65536) = f1 := ⟨_, rfl⟩
  rw [hf1] at NX hU e103 R1
  obtain ⟨n, hn⟩ : ∃ n, f 103 = n := ⟨_, rfl⟩
  rw [hn] at hU e103 r103 u103 hq1 hq0 hs
  obtain ⟨z, hz⟩ : ∃ z, n + 1 = z := ⟨_, rfl⟩
  have z0 : 0 ≤ z := by omega
  have z1 : z ≤ 255 := by omega
  have ew : IntKind.u8.wrap (n + 1) = z := by rw [IntKind.wrap_u8]; omega
  rw [hz] at hU u103 hq1 hq0
  have CN := Lib.hid (fun (w' : World) (A' : Da w' g (utB c f)) => counted_any A' RU c hc)
  have LG := Lib.hid (fun (w' : World) (A' : Da w' g (utB c f)) => length_any A' RU (o := c * 12) (by omega))
  rw [um] at LG
  have RC : Rng (cntF c (utB c f)).2 := cntF_rng RU c hc
  obtain ⟨⟨b, f3⟩, hcn⟩ : ∃ q, cntF c (utB c f) = q := ⟨_, rfl⟩
  rw [hcn] at CN hq1 RC
  simp only at CN RC
  obtain ⟨fu, hfu⟩ : ∃ fu, utB c f = fu := ⟨_, rfl⟩
  rw [hfu] at CN LG hU um u103 hq0
  have pr := lenOf_rng (f (c * 12))
  obtain ⟨ln, hln⟩ : ∃ ln, lenOf (f (c * 12)) = ln := ⟨_, rfl⟩
  rw [hln] at LG pr hq1 hq0
  obtain ⟨p0, p1⟩ := pr
  have G1 : Hid (ln ≤ z → (b = true → Beg r f3) ∧ (b = false → r = f3)) := Lib.hid (fun h => by
    have e := hq1 h
    rw [e] at HB1 HB0
    exact ⟨HB1, HB0⟩)
  have G0 : Hid (¬ ln ≤ z → r = fu) := Lib.hid (fun h => by
    have e := hq0 h
    rw [e] at HB0
    exact HB0 rfl)
  have HRC := Lib.hid RC
  have HU := Lib.hid hU
  have H103 := Lib.hid e103
  have HU3 := Lib.hid u103
  have HA := Lib.hid A
  have cm0 := A.cell (j := c * 12) (by omega)
  obtain ⟨x2, hx2⟩ : ∃ x, f 102 = x := ⟨_, rfl⟩
  rw [hx2] at c102 LE
  clear A R R1 RU hU um u103 hf1 hn hz hcn hfu hln e103 hb hm hm' rm wr r103 hx2 HB1 HB0 hq1 hq0 hA hs RC
  go_enter Try.func41, Try.ntmps41
  go_wp2_with fail
  refine (LE.out _ HA.out).mono ?_
  rintro e w1 ⟨rfl, hb1⟩
  have A1 := Lib.hid (HA.out.kept hb1)
  have cm := keepC hb1 cm0
  have U1 := Lib.hid (Upd.ofBelow hb1 g)
  clear hb1 HA LE c102 cm0
  go_wp2_with fail
  refine (NX.out _ A1.out).mono ?_
  rintro e w2 ⟨rfl, a2, u2⟩
  have c103 := a2.cell (j := 103) (by omega)
  rw [H103.out] at c103
  have f103 := a2.frozen 103
  have a3 := a2.put1 (i := 103) (by omega) z
  rw [← HU.out] at a3
  have k103 := a3.cell (j := 103) (by omega)
  rw [HU3.out] at k103
  have A3 := Lib.hid a3
  have U3 := Lib.hid ((U1.out.trans u2).set 103 (.int .u8 z))
  clear a2 u2 a3 A1 U1 NX cm
  go_upto_region 5 with (fail)
  obtain ⟨W3, hW3⟩ : ∃ W3, W3 = w2.setCell ⟨g, 103, none⟩ (.int .u8 z) := ⟨_, rfl⟩
  rw [← hW3] at A3 U3 k103 ⊢
  clear hW3 c103 f103
  by_cases hl : ln ≤ z
  · have GG := Lib.hid (G1.out hl)
    clear G1 G0
    go_cut [44] from 32 to 44 (fun s wx => s = .bool b ∧ Da wx g f3 ∧ Upd W3 g wx)
    case first =>
      obtain ⟨wd, hwd⟩ : ∃ wd, wd = W3.drew := ⟨_, rfl⟩
      have k103d : wd.cell? ⟨g, 103, none⟩ = some (.int .u8 z) := by rw [hwd]; exact k103
      have AD : Hid (Da wd g fu) := by rw [hwd]; exact A3.out
      have UD : Hid (Upd W3 g wd) := by rw [hwd]; exact (Upd.refl _ _).drew
      have CB2 := LG.out _ AD.out
      have CC2 := Lib.hid (CN.out _ AD.out)
      clear k103
      refine wp_region_still_tail 11 (by kernel_rfl) (by kernel_rfl) ?_
      change wpStill _ _ (World.drew _) (fun a' => wpList _ _ _ _ a' (World.drew _)) _ _
      rw [← hwd]
      clear hwd
      simp only [List.take_succ_cons, List.take_zero, List.drop_succ_cons, List.drop_zero]
      repeat still_step
      still_call CB2
      repeat still_step
      refine wpStill_nil ?_
      go_wp2_with fail
      refine CC2.out.mono ?_
      rintro e w4 ⟨rfl, a4, u4⟩
      have A4 := Lib.hid a4
      have U4 := Lib.hid (UD.out.trans u4)
      clear a4 u4
      go_wp2_with fail
      go_meet
      exact ⟨rfl, A4.out, U4.out⟩
    case rest =>
      obtain ⟨rfl, a4, u4⟩ := hcut
      have A4 := Lib.hid a4
      have U4 := Lib.hid (U3.out.trans u4)
      cases b
      · have HR := Lib.hid (GG.out.2 rfl)
        clear a4 u4 k103 A3 U3 GG
        go_wp2_with fail
        go_end0
        rw [HR.out]
        exact ⟨rfl, A4.out, U4.out⟩
      · have BG := Lib.hid (begin_gen a4 HRC.out (GG.out.1 rfl))
        clear a4 u4 k103 A3 U3 GG
        go_wp2_with fail
        refine BG.out.mono ?_
        rintro e w5 ⟨rfl, a5, u5⟩
        have A5 := Lib.hid a5
        have U5 := Lib.hid (U4.out.trans u5)
        clear a5 u5
        go_wp2_with fail
        go_end0
        exact ⟨rfl, A5.out, U5.out⟩
  · have HR := Lib.hid (G0.out (by omega))
    clear G1 G0
    go_cut [44] from 32 to 44 (fun s wx => s = .bool false ∧ Da wx g fu ∧ Upd W3 g wx)
    case first =>
      obtain ⟨wd, hwd⟩ : ∃ wd, wd = W3.drew := ⟨_, rfl⟩
      have k103d : wd.cell? ⟨g, 103, none⟩ = some (.int .u8 z) := by rw [hwd]; exact k103
      have AD : Hid (Da wd g fu) := by rw [hwd]; exact A3.out
      have UD : Hid (Upd W3 g wd) := by rw [hwd]; exact (Upd.refl _ _).drew
      have CB2 := LG.out _ AD.out
      clear k103
      refine wp_region_still_tail 11 (by kernel_rfl) (by kernel_rfl) ?_
      change wpStill _ _ (World.drew _) (fun a' => wpList _ _ _ _ a' (World.drew _)) _ _
      rw [← hwd]
      clear hwd
      simp only [List.take_succ_cons, List.take_zero, List.drop_succ_cons, List.drop_zero]
      repeat still_step
      still_call CB2
      repeat still_step
      refine wpStill_nil ?_
      go_wp2_with fail
      go_meet
      exact ⟨rfl, AD.out, UD.out⟩
    case rest =>
      obtain ⟨rfl, a4, u4⟩ := hcut
      have A4 := Lib.hid a4
      have U4 := Lib.hid (U3.out.trans u4)
      clear a4 u4 k103 A3 U3
      go_wp2_with fail
      go_end0
      rw [HR.out]
      exact ⟨rfl, A4.out, U4.out⟩
theorem unit_gen (A : Da w g f) (R : Rng f) (c : Nat) (hc : c < 8) (hb : First (f 102) c) (hs : f 103 < 8) (v : Int) (HB1 : (utF c f).1 = true → Beg r (utF c f).2) (HB0 : (utF c f).1 = false → r = (utF c f).2) :
    Calls Try.prog 41 #[.pointer (some ⟨g, 0, none⟩), .int .u8 v] w (Wrote w g r (.tuple #[])) := by
  cases hm : indB f c
  · exact unit_dir A R c hc hb hm hs v HB1 HB0
  · exact unit_ind A R c hc hb hm hs v HB1 HB0
set_option maxHeartbeats 4000000 in
theorem entry_zero (A : Da w g f) (R : Rng f) (c : Nat) (hc : c < 8) (hb : First (f 102) c) (hs : f 103 = 8) (HB : Beg r (ovF c (edF c (put1 (enA c f) (c * 12 + 10) 0)))) :
    Calls Try.prog 42 #[.pointer (some ⟨g, 0, none⟩), .int .u8 0] w (Wrote w g r (.tuple #[])) := by
  obtain ⟨b0, b1⟩ := bitOf_rng c hc
  have c102 := A.cell (j := 102) (by omega)
  have LE := Lib.hid (fun (w' : World) (A' : Da w' g f) => least_any A' c hc (f 102) hb)
  have NX := Lib.hid (fun (w' : World) (A' : Da w' g f) => next_any A' R (o := c * 12) 8 (by omega) (by omega))
  have rm := R (c * 12)
  have e64 := and64 (f (c * 12)) rm.1 rm.2
  have hA : put2 f (c * 12 + 8) ((wordOf f (c * 12 + 8) + 1) % 65536) = enA c f := rfl
  rw [hA] at NX
  have e103 : enA c f 103 = 8 := by rw [enA_ne (by omega) hc]; exact hs
  have e99 : enA c f 99 = f 99 := enA_ne (by omega) hc
  have e100 : enA c f 100 = f 100 := enA_ne (by omega) hc
  have e102 : enA c f 102 = f 102 := enA_ne (by omega) hc
  have em : enA c f (c * 12) = f (c * 12) := put2_ne (by omega) (by omega)
  have RA : Rng (enA c f) := enA_rng R
  obtain ⟨x2, hx2⟩ : ∃ x, f 102 = x := ⟨_, rfl⟩
  obtain ⟨mm, hmm⟩ : ∃ x, f (c * 12) = x := ⟨_, rfl⟩
  rw [hx2] at c102 LE e102
  rw [hmm] at e64 em
  obtain ⟨fa, hfa⟩ : ∃ fa, enA c f = fa := ⟨_, rfl⟩
  rw [hfa] at NX e103 e99 e100 e102 em RA HB
  have H103 := Lib.hid e103
  have H102 := Lib.hid e102
  have HM := Lib.hid em
  have HRA := Lib.hid RA
  have HA := Lib.hid A
  have HBB := Lib.hid HB
  clear A R hA rm hx2 hmm hfa e103 e102 em RA HB hb e99 e100
  go_enter Try.func42, Try.ntmps42
  go_wp2_with fail
  refine wp_scope_once ?_
  go_wp2_with fail
  refine (LE.out _ HA.out).mono ?_
  rintro e w1 ⟨rfl, hb1⟩
  have A1 := Lib.hid (HA.out.kept hb1)
  have U1 := Lib.hid (Upd.ofBelow hb1 g)
  clear hb1 HA LE c102
  go_wp2_with fail
  refine (NX.out _ A1.out).mono ?_
  rintro e w2 ⟨rfl, a2, u2⟩
  have c103 := a2.cell (j := 103) (by omega)
  rw [H103.out] at c103
  have f103 := a2.frozen 103
  have c10 := a2.cell (j := c * 12 + 10) (by omega)
  have f10 := a2.frozen (c * 12 + 10)
  have a3 := a2.put1 (i := c * 12 + 10) (by omega) 0
  have R3 : Rng (put1 fa (c * 12 + 10) 0) := HRA.out.put1 _ (by omega) (by omega)
  have k99 := a3.cell (j := 99) (by omega)
  have k100 := a3.cell (j := 100) (by omega)
  have k102 := a3.cell (j := 102) (by omega)
  have km := a3.cell (j := c * 12) (by omega)
  have k103 := a3.cell (j := 103) (by omega)
  have g102 : put1 fa (c * 12 + 10) 0 102 = x2 := by rw [put1_ne (by omega)]; exact H102.out
  have gm : put1 fa (c * 12 + 10) 0 (c * 12) = mm := by rw [put1_ne (by omega)]; exact HM.out
  have g103 : put1 fa (c * 12 + 10) 0 103 = 8 := by rw [put1_ne (by omega)]; exact H103.out
  rw [g102] at k102
  rw [gm] at km
  rw [g103] at k103
  obtain ⟨fb, hfb⟩ : ∃ fb, put1 fa (c * 12 + 10) 0 = fb := ⟨_, rfl⟩
  have HB2 := HBB.out
  rw [hfb] at a3 k99 k100 g102 R3 HB2
  have f99 := a3.frozen 99
  have f100 := a3.frozen 100
  have f102 := a3.frozen 102
  have f103' := a3.frozen 103
  have A3 := Lib.hid a3
  have HR3 := Lib.hid R3
  have U3 := Lib.hid ((U1.out.trans u2).set (c * 12 + 10) (.int .u8 0))
  have HB3 := Lib.hid HB2
  have G102 := Lib.hid g102
  clear a2 u2 a3 A1 U1 NX R3 HB2 HBB gm g103 g102 hfb
  have RD : Rng (edF c fb) := edF_rng hc HR3.out
  have RO : Rng (ovF c (edF c fb)) := ovF_rng hc RD
  obtain ⟨y, hy⟩ : ∃ y, fb 99 = y := ⟨_, rfl⟩
  rw [hy] at k99
  have hD : edF c fb = put1 fb 99 (bits .or .u8 y (bitOf c)) := by unfold edF; rw [hy]
  obtain ⟨y2, hy2⟩ : ∃ q, bits .or .u8 y (bitOf c) = q := ⟨_, rfl⟩
  rw [hy2] at hD
  have a4 := A3.out.put1 (i := 99) (by omega) y2
  rw [← hD] at a4
  have d102 : edF c fb 102 = x2 := by rw [hD, put1_ne (by omega)]; exact G102.out
  have k102' := a4.cell (j := 102) (by omega)
  rw [d102] at k102'
  have f102' := a4.frozen 102
  have hO : ovF c (edF c fb) = put1 (edF c fb) 102 (bits .andNot .u8 x2 (bitOf c)) := by unfold ovF; rw [d102]
  obtain ⟨y3, hy3⟩ : ∃ y, bits .andNot .u8 x2 (bitOf c) = y := ⟨_, rfl⟩
  rw [hy3] at hO
  have a5 := a4.put1 (i := 102) (by omega) y3
  rw [← hO] at a5
  have BG := Lib.hid (begin_gen a5 RO HB3.out)
  have U5 := Lib.hid ((U3.out.set 99 (.int .u8 y2)).set 102 (.int .u8 y3))
  clear a4 a5 hD hO RD RO HB3 d102 hy
  go_wp2_with fail
  refine wp_goto ?_
  refine ⟨_, rfl, ?_⟩
  go_wp2_with fail
  try go_step3
  go_wp2_with fail
  refine BG.out.mono ?_
  rintro e w5 ⟨rfl, a6, u6⟩
  have A6 := Lib.hid a6
  have U6 := Lib.hid (U5.out.trans u6)
  clear a6 u6
  go_wp2_with fail
  (first | rw [noGoto_normal] | rw [onceG_normal] | skip)
  go_wp2_with fail
  go_end0
  exact ⟨rfl, A6.out, U6.out⟩
set_option maxHeartbeats 4000000 in
theorem entry_ind (A : Da w g f) (R : Rng f) (c : Nat) (hc : c < 8) (hb : First (f 102) c) (v : Int) (v0 : 0 ≤ v) (v1 : v ≤ 255) (hs : f 103 = 8) (hv : v ≠ 0) (hm : indB f c = true) (HB : r = put1 (put1 (enA c f) (c * 12 + 10) v) 103 9) :
    Calls Try.prog 42 #[.pointer (some ⟨g, 0, none⟩), .int .u8 v] w (Wrote w g r (.tuple #[])) := by
  obtain ⟨b0, b1⟩ := bitOf_rng c hc
  have c102 := A.cell (j := 102) (by omega)
  have LE := Lib.hid (fun (w' : World) (A' : Da w' g f) => least_any A' c hc (f 102) hb)
  have NX := Lib.hid (fun (w' : World) (A' : Da w' g f) => next_any A' R (o := c * 12) 8 (by omega) (by omega))
  have rm := R (c * 12)
  have e64 := and64 (f (c * 12)) rm.1 rm.2
  have hA : put2 f (c * 12 + 8) ((wordOf f (c * 12 + 8) + 1) % 65536) = enA c f := rfl
  rw [hA] at NX
  have e103 : enA c f 103 = 8 := by rw [enA_ne (by omega) hc]; exact hs
  have e99 : enA c f 99 = f 99 := enA_ne (by omega) hc
  have e100 : enA c f 100 = f 100 := enA_ne (by omega) hc
  have e102 : enA c f 102 = f 102 := enA_ne (by omega) hc
  have em : enA c f (c * 12) = f (c * 12) := put2_ne (by omega) (by omega)
  have RA : Rng (enA c f) := enA_rng R
  have hm' : f (c * 12) / 64 % 2 = 1 := by
    have e : bitN (f (c * 12)) 6 = f (c * 12) / 64 % 2 := by unfold bitN; simp
    unfold indB at hm
    rw [← e]
    have := bitN_01 (f (c * 12)) 6
    simp at hm
    omega
  rw [hm'] at e64
  simp only [Int.zero_mul, Int.one_mul] at e64
  have t0 : (v == 0) = false := by simpa using hv
  obtain ⟨x2, hx2⟩ : ∃ x, f 102 = x := ⟨_, rfl⟩
  obtain ⟨mm, hmm⟩ : ∃ x, f (c * 12) = x := ⟨_, rfl⟩
  rw [hx2] at c102 LE e102
  rw [hmm] at e64 em
  obtain ⟨fa, hfa⟩ : ∃ fa, enA c f = fa := ⟨_, rfl⟩
  rw [hfa] at NX e103 e99 e100 e102 em RA HB
  have H103 := Lib.hid e103
  have H102 := Lib.hid e102
  have HM := Lib.hid em
  have HRA := Lib.hid RA
  have HA := Lib.hid A
  have HBB := Lib.hid HB
  clear A R hA rm hx2 hmm hfa e103 e102 em RA HB hb e99 e100
  go_enter Try.func42, Try.ntmps42
  go_wp2_with fail
  refine wp_scope_once ?_
  go_wp2_with fail
  refine (LE.out _ HA.out).mono ?_
  rintro e w1 ⟨rfl, hb1⟩
  have A1 := Lib.hid (HA.out.kept hb1)
  have U1 := Lib.hid (Upd.ofBelow hb1 g)
  clear hb1 HA LE c102
  go_wp2_with fail
  refine (NX.out _ A1.out).mono ?_
  rintro e w2 ⟨rfl, a2, u2⟩
  have c103 := a2.cell (j := 103) (by omega)
  rw [H103.out] at c103
  have f103 := a2.frozen 103
  have c10 := a2.cell (j := c * 12 + 10) (by omega)
  have f10 := a2.frozen (c * 12 + 10)
  have a3 := a2.put1 (i := c * 12 + 10) (by omega) v
  have R3 : Rng (put1 fa (c * 12 + 10) v) := HRA.out.put1 _ v0 v1
  have k99 := a3.cell (j := 99) (by omega)
  have k100 := a3.cell (j := 100) (by omega)
  have k102 := a3.cell (j := 102) (by omega)
  have km := a3.cell (j := c * 12) (by omega)
  have k103 := a3.cell (j := 103) (by omega)
  have g102 : put1 fa (c * 12 + 10) v 102 = x2 := by rw [put1_ne (by omega)]; exact H102.out
  have gm : put1 fa (c * 12 + 10) v (c * 12) = mm := by rw [put1_ne (by omega)]; exact HM.out
  have g103 : put1 fa (c * 12 + 10) v 103 = 8 := by rw [put1_ne (by omega)]; exact H103.out
  rw [g102] at k102
  rw [gm] at km
  rw [g103] at k103
  obtain ⟨fb, hfb⟩ : ∃ fb, put1 fa (c * 12 + 10) v = fb := ⟨_, rfl⟩
  have HB2 := HBB.out
  rw [hfb] at a3 k99 k100 g102 R3 HB2
  have f99 := a3.frozen 99
  have f100 := a3.frozen 100
  have f102 := a3.frozen 102
  have f103' := a3.frozen 103
  have A3 := Lib.hid a3
  have HR3 := Lib.hid R3
  have U3 := Lib.hid ((U1.out.trans u2).set (c * 12 + 10) (.int .u8 v))
  have HB3 := Lib.hid HB2
  have G102 := Lib.hid g102
  clear a2 u2 a3 A1 U1 NX R3 HB2 HBB gm g103 g102 hfb
  have a4 := A3.out.put1 (i := 103) (by omega) 9
  have A4 := Lib.hid a4
  have U4 := Lib.hid (U3.out.set 103 (.int .u8 9))
  clear a4
  go_wp2_with fail
  (first | rw [onceG_ret] | rw [onceG_normal] | skip)
  go_wp2_with fail
  go_end0
  rw [HB3.out]
  exact ⟨rfl, A4.out, U4.out⟩
set_option maxHeartbeats 4000000 in
theorem entry_dir (A : Da w g f) (R : Rng f) (c : Nat) (hc : c < 8) (hb : First (f 102) c) (v : Int) (v0 : 0 ≤ v) (v1 : v ≤ 255) (hs : f 103 = 8) (hv : v ≠ 0) (hm : indB f c = false) (HB : Beg r (ovF c (dsF c (put1 (enA c f) (c * 12 + 10) v)))) :
    Calls Try.prog 42 #[.pointer (some ⟨g, 0, none⟩), .int .u8 v] w (Wrote w g r (.tuple #[])) := by
  obtain ⟨b0, b1⟩ := bitOf_rng c hc
  have c102 := A.cell (j := 102) (by omega)
  have LE := Lib.hid (fun (w' : World) (A' : Da w' g f) => least_any A' c hc (f 102) hb)
  have NX := Lib.hid (fun (w' : World) (A' : Da w' g f) => next_any A' R (o := c * 12) 8 (by omega) (by omega))
  have rm := R (c * 12)
  have e64 := and64 (f (c * 12)) rm.1 rm.2
  have hA : put2 f (c * 12 + 8) ((wordOf f (c * 12 + 8) + 1) % 65536) = enA c f := rfl
  rw [hA] at NX
  have e103 : enA c f 103 = 8 := by rw [enA_ne (by omega) hc]; exact hs
  have e99 : enA c f 99 = f 99 := enA_ne (by omega) hc
  have e100 : enA c f 100 = f 100 := enA_ne (by omega) hc
  have e102 : enA c f 102 = f 102 := enA_ne (by omega) hc
  have em : enA c f (c * 12) = f (c * 12) := put2_ne (by omega) (by omega)
  have RA : Rng (enA c f) := enA_rng R
  have hm' : f (c * 12) / 64 % 2 = 0 := by
    have e : bitN (f (c * 12)) 6 = f (c * 12) / 64 % 2 := by unfold bitN; simp
    unfold indB at hm
    rw [← e]
    have := bitN_01 (f (c * 12)) 6
    simp at hm
    omega
  rw [hm'] at e64
  simp only [Int.zero_mul, Int.one_mul] at e64
  have t0 : (v == 0) = false := by simpa using hv
  obtain ⟨x2, hx2⟩ : ∃ x, f 102 = x := ⟨_, rfl⟩
  obtain ⟨mm, hmm⟩ : ∃ x, f (c * 12) = x := ⟨_, rfl⟩
  rw [hx2] at c102 LE e102
  rw [hmm] at e64 em
  obtain ⟨fa, hfa⟩ : ∃ fa, enA c f = fa := ⟨_, rfl⟩
  rw [hfa] at NX e103 e99 e100 e102 em RA HB
  have H103 := Lib.hid e103
  have H102 := Lib.hid e102
  have HM := Lib.hid em
  have HRA := Lib.hid RA
  have HA := Lib.hid A
  have HBB := Lib.hid HB
  clear A R hA rm hx2 hmm hfa e103 e102 em RA HB hb e99 e100
  go_enter Try.func42, Try.ntmps42
  go_wp2_with fail
  refine wp_scope_once ?_
  go_wp2_with fail
  refine (LE.out _ HA.out).mono ?_
  rintro e w1 ⟨rfl, hb1⟩
  have A1 := Lib.hid (HA.out.kept hb1)
  have U1 := Lib.hid (Upd.ofBelow hb1 g)
  clear hb1 HA LE c102
  go_wp2_with fail
  refine (NX.out _ A1.out).mono ?_
  rintro e w2 ⟨rfl, a2, u2⟩
  have c103 := a2.cell (j := 103) (by omega)
  rw [H103.out] at c103
  have f103 := a2.frozen 103
  have c10 := a2.cell (j := c * 12 + 10) (by omega)
  have f10 := a2.frozen (c * 12 + 10)
  have a3 := a2.put1 (i := c * 12 + 10) (by omega) v
  have R3 : Rng (put1 fa (c * 12 + 10) v) := HRA.out.put1 _ v0 v1
  have k99 := a3.cell (j := 99) (by omega)
  have k100 := a3.cell (j := 100) (by omega)
  have k102 := a3.cell (j := 102) (by omega)
  have km := a3.cell (j := c * 12) (by omega)
  have k103 := a3.cell (j := 103) (by omega)
  have g102 : put1 fa (c * 12 + 10) v 102 = x2 := by rw [put1_ne (by omega)]; exact H102.out
  have gm : put1 fa (c * 12 + 10) v (c * 12) = mm := by rw [put1_ne (by omega)]; exact HM.out
  have g103 : put1 fa (c * 12 + 10) v 103 = 8 := by rw [put1_ne (by omega)]; exact H103.out
  rw [g102] at k102
  rw [gm] at km
  rw [g103] at k103
  obtain ⟨fb, hfb⟩ : ∃ fb, put1 fa (c * 12 + 10) v = fb := ⟨_, rfl⟩
  have HB2 := HBB.out
  rw [hfb] at a3 k99 k100 g102 R3 HB2
  have f99 := a3.frozen 99
  have f100 := a3.frozen 100
  have f102 := a3.frozen 102
  have f103' := a3.frozen 103
  have A3 := Lib.hid a3
  have HR3 := Lib.hid R3
  have U3 := Lib.hid ((U1.out.trans u2).set (c * 12 + 10) (.int .u8 v))
  have HB3 := Lib.hid HB2
  have G102 := Lib.hid g102
  clear a2 u2 a3 A1 U1 NX R3 HB2 HBB gm g103 g102 hfb
  have RD : Rng (dsF c fb) := dsF_rng hc HR3.out
  have RO : Rng (ovF c (dsF c fb)) := ovF_rng hc RD
  obtain ⟨y, hy⟩ : ∃ y, fb 100 = y := ⟨_, rfl⟩
  rw [hy] at k100
  have hD : dsF c fb = put1 fb 100 (bits .or .u8 y (bitOf c)) := by unfold dsF; rw [hy]
  obtain ⟨y2, hy2⟩ : ∃ q, bits .or .u8 y (bitOf c) = q := ⟨_, rfl⟩
  rw [hy2] at hD
  have a4 := A3.out.put1 (i := 100) (by omega) y2
  rw [← hD] at a4
  have d102 : dsF c fb 102 = x2 := by rw [hD, put1_ne (by omega)]; exact G102.out
  have k102' := a4.cell (j := 102) (by omega)
  rw [d102] at k102'
  have f102' := a4.frozen 102
  have hO : ovF c (dsF c fb) = put1 (dsF c fb) 102 (bits .andNot .u8 x2 (bitOf c)) := by unfold ovF; rw [d102]
  obtain ⟨y3, hy3⟩ : ∃ y, bits .andNot .u8 x2 (bitOf c) = y := ⟨_, rfl⟩
  rw [hy3] at hO
  have a5 := a4.put1 (i := 102) (by omega) y3
  rw [← hO] at a5
  have BG := Lib.hid (begin_gen a5 RO HB3.out)
  have U5 := Lib.hid ((U3.out.set 100 (.int .u8 y2)).set 102 (.int .u8 y3))
  clear a4 a5 hD hO RD RO HB3 d102 hy
  go_wp2_with fail
  refine wp_goto ?_
  refine ⟨_, rfl, ?_⟩
  go_wp2_with fail
  try go_step3
  go_wp2_with fail
  try go_step3
  go_wp2_with fail
  refine BG.out.mono ?_
  rintro e w5 ⟨rfl, a6, u6⟩
  have A6 := Lib.hid a6
  have U6 := Lib.hid (U5.out.trans u6)
  clear a6 u6
  go_wp2_with fail
  (first | rw [noGoto_normal] | rw [onceG_normal] | skip)
  go_wp2_with fail
  go_end0
  exact ⟨rfl, A6.out, U6.out⟩
set_option maxHeartbeats 4000000 in
theorem entry_nine (A : Da w g f) (R : Rng f) (c : Nat) (hc : c < 8) (hb : First (f 102) c) (v : Int) (v0 : 0 ≤ v) (v1 : v ≤ 255) (hs : f 103 = 9) (HB : r = put1 (put1 (enA c f) (c * 12 + 5) v) 103 10) :
    Calls Try.prog 42 #[.pointer (some ⟨g, 0, none⟩), .int .u8 v] w (Wrote w g r (.tuple #[])) := by
  obtain ⟨b0, b1⟩ := bitOf_rng c hc
  have c102 := A.cell (j := 102) (by omega)
  have LE := Lib.hid (fun (w' : World) (A' : Da w' g f) => least_any A' c hc (f 102) hb)
  have NX := Lib.hid (fun (w' : World) (A' : Da w' g f) => next_any A' R (o := c * 12) 8 (by omega) (by omega))
  have rm := R (c * 12)
  have e64 := and64 (f (c * 12)) rm.1 rm.2
  have hA : put2 f (c * 12 + 8) ((wordOf f (c * 12 + 8) + 1) % 65536) = enA c f := rfl
  rw [hA] at NX
  have e103 : enA c f 103 = 9 := by rw [enA_ne (by omega) hc]; exact hs
  have e99 : enA c f 99 = f 99 := enA_ne (by omega) hc
  have e100 : enA c f 100 = f 100 := enA_ne (by omega) hc
  have e102 : enA c f 102 = f 102 := enA_ne (by omega) hc
  have em : enA c f (c * 12) = f (c * 12) := put2_ne (by omega) (by omega)
  have RA : Rng (enA c f) := enA_rng R
  obtain ⟨x2, hx2⟩ : ∃ x, f 102 = x := ⟨_, rfl⟩
  obtain ⟨mm, hmm⟩ : ∃ x, f (c * 12) = x := ⟨_, rfl⟩
  rw [hx2] at c102 LE e102
  rw [hmm] at e64 em
  obtain ⟨fa, hfa⟩ : ∃ fa, enA c f = fa := ⟨_, rfl⟩
  rw [hfa] at NX e103 e99 e100 e102 em RA HB
  have H103 := Lib.hid e103
  have H102 := Lib.hid e102
  have HM := Lib.hid em
  have HRA := Lib.hid RA
  have HA := Lib.hid A
  have HBB := Lib.hid HB
  clear A R hA rm hx2 hmm hfa e103 e102 em RA HB hb e99 e100
  go_enter Try.func42, Try.ntmps42
  go_wp2_with fail
  refine wp_scope_once ?_
  go_wp2_with fail
  refine (LE.out _ HA.out).mono ?_
  rintro e w1 ⟨rfl, hb1⟩
  have A1 := Lib.hid (HA.out.kept hb1)
  have U1 := Lib.hid (Upd.ofBelow hb1 g)
  clear hb1 HA LE c102
  go_wp2_with fail
  refine (NX.out _ A1.out).mono ?_
  rintro e w2 ⟨rfl, a2, u2⟩
  have c103 := a2.cell (j := 103) (by omega)
  rw [H103.out] at c103
  have f103 := a2.frozen 103
  have c10 := a2.cell (j := c * 12 + 5) (by omega)
  have f10 := a2.frozen (c * 12 + 5)
  have a3 := a2.put1 (i := c * 12 + 5) (by omega) v
  have R3 : Rng (put1 fa (c * 12 + 5) v) := HRA.out.put1 _ v0 v1
  have k99 := a3.cell (j := 99) (by omega)
  have k100 := a3.cell (j := 100) (by omega)
  have k102 := a3.cell (j := 102) (by omega)
  have km := a3.cell (j := c * 12) (by omega)
  have k103 := a3.cell (j := 103) (by omega)
  have g102 : put1 fa (c * 12 + 5) v 102 = x2 := by rw [put1_ne (by omega)]; exact H102.out
  have gm : put1 fa (c * 12 + 5) v (c * 12) = mm := by rw [put1_ne (by omega)]; exact HM.out
  have g103 : put1 fa (c * 12 + 5) v 103 = 9 := by rw [put1_ne (by omega)]; exact H103.out
  rw [g102] at k102
  rw [gm] at km
  rw [g103] at k103
  obtain ⟨fb, hfb⟩ : ∃ fb, put1 fa (c * 12 + 5) v = fb := ⟨_, rfl⟩
  have HB2 := HBB.out
  rw [hfb] at a3 k99 k100 g102 R3 HB2
  have f99 := a3.frozen 99
  have f100 := a3.frozen 100
  have f102 := a3.frozen 102
  have f103' := a3.frozen 103
  have A3 := Lib.hid a3
  have HR3 := Lib.hid R3
  have U3 := Lib.hid ((U1.out.trans u2).set (c * 12 + 5) (.int .u8 v))
  have HB3 := Lib.hid HB2
  have G102 := Lib.hid g102
  clear a2 u2 a3 A1 U1 NX R3 HB2 HBB gm g103 g102 hfb
  have a4 := A3.out.put1 (i := 103) (by omega) 10
  have A4 := Lib.hid a4
  have U4 := Lib.hid (U3.out.set 103 (.int .u8 10))
  clear a4
  go_wp2_with fail
  (first | rw [onceG_ret] | rw [onceG_normal] | skip)
  go_wp2_with fail
  go_end0
  rw [HB3.out]
  exact ⟨rfl, A4.out, U4.out⟩
set_option maxHeartbeats 4000000 in
theorem entry_ten (A : Da w g f) (R : Rng f) (c : Nat) (hc : c < 8) (hb : First (f 102) c) (v : Int) (v0 : 0 ≤ v) (v1 : v ≤ 255) (hs : f 103 = 10) (HB : Beg r (ovF c (dsF c (put1 (enA c f) (c * 12 + 6) v)))) :
    Calls Try.prog 42 #[.pointer (some ⟨g, 0, none⟩), .int .u8 v] w (Wrote w g r (.tuple #[])) := by
  obtain ⟨b0, b1⟩ := bitOf_rng c hc
  have c102 := A.cell (j := 102) (by omega)
  have LE := Lib.hid (fun (w' : World) (A' : Da w' g f) => least_any A' c hc (f 102) hb)
  have NX := Lib.hid (fun (w' : World) (A' : Da w' g f) => next_any A' R (o := c * 12) 8 (by omega) (by omega))
  have rm := R (c * 12)
  have e64 := and64 (f (c * 12)) rm.1 rm.2
  have hA : put2 f (c * 12 + 8) ((wordOf f (c * 12 + 8) + 1) % 65536) = enA c f := rfl
  rw [hA] at NX
  have e103 : enA c f 103 = 10 := by rw [enA_ne (by omega) hc]; exact hs
  have e99 : enA c f 99 = f 99 := enA_ne (by omega) hc
  have e100 : enA c f 100 = f 100 := enA_ne (by omega) hc
  have e102 : enA c f 102 = f 102 := enA_ne (by omega) hc
  have em : enA c f (c * 12) = f (c * 12) := put2_ne (by omega) (by omega)
  have RA : Rng (enA c f) := enA_rng R
  obtain ⟨x2, hx2⟩ : ∃ x, f 102 = x := ⟨_, rfl⟩
  obtain ⟨mm, hmm⟩ : ∃ x, f (c * 12) = x := ⟨_, rfl⟩
  rw [hx2] at c102 LE e102
  rw [hmm] at e64 em
  obtain ⟨fa, hfa⟩ : ∃ fa, enA c f = fa := ⟨_, rfl⟩
  rw [hfa] at NX e103 e99 e100 e102 em RA HB
  have H103 := Lib.hid e103
  have H102 := Lib.hid e102
  have HM := Lib.hid em
  have HRA := Lib.hid RA
  have HA := Lib.hid A
  have HBB := Lib.hid HB
  clear A R hA rm hx2 hmm hfa e103 e102 em RA HB hb e99 e100
  go_enter Try.func42, Try.ntmps42
  go_wp2_with fail
  refine wp_scope_once ?_
  go_wp2_with fail
  refine (LE.out _ HA.out).mono ?_
  rintro e w1 ⟨rfl, hb1⟩
  have A1 := Lib.hid (HA.out.kept hb1)
  have U1 := Lib.hid (Upd.ofBelow hb1 g)
  clear hb1 HA LE c102
  go_wp2_with fail
  refine (NX.out _ A1.out).mono ?_
  rintro e w2 ⟨rfl, a2, u2⟩
  have c103 := a2.cell (j := 103) (by omega)
  rw [H103.out] at c103
  have f103 := a2.frozen 103
  have c10 := a2.cell (j := c * 12 + 6) (by omega)
  have f10 := a2.frozen (c * 12 + 6)
  have a3 := a2.put1 (i := c * 12 + 6) (by omega) v
  have R3 : Rng (put1 fa (c * 12 + 6) v) := HRA.out.put1 _ v0 v1
  have k99 := a3.cell (j := 99) (by omega)
  have k100 := a3.cell (j := 100) (by omega)
  have k102 := a3.cell (j := 102) (by omega)
  have km := a3.cell (j := c * 12) (by omega)
  have k103 := a3.cell (j := 103) (by omega)
  have g102 : put1 fa (c * 12 + 6) v 102 = x2 := by rw [put1_ne (by omega)]; exact H102.out
  have gm : put1 fa (c * 12 + 6) v (c * 12) = mm := by rw [put1_ne (by omega)]; exact HM.out
  have g103 : put1 fa (c * 12 + 6) v 103 = 10 := by rw [put1_ne (by omega)]; exact H103.out
  rw [g102] at k102
  rw [gm] at km
  rw [g103] at k103
  obtain ⟨fb, hfb⟩ : ∃ fb, put1 fa (c * 12 + 6) v = fb := ⟨_, rfl⟩
  have HB2 := HBB.out
  rw [hfb] at a3 k99 k100 g102 R3 HB2
  have f99 := a3.frozen 99
  have f100 := a3.frozen 100
  have f102 := a3.frozen 102
  have f103' := a3.frozen 103
  have A3 := Lib.hid a3
  have HR3 := Lib.hid R3
  have U3 := Lib.hid ((U1.out.trans u2).set (c * 12 + 6) (.int .u8 v))
  have HB3 := Lib.hid HB2
  have G102 := Lib.hid g102
  clear a2 u2 a3 A1 U1 NX R3 HB2 HBB gm g103 g102 hfb
  have RD : Rng (dsF c fb) := dsF_rng hc HR3.out
  have RO : Rng (ovF c (dsF c fb)) := ovF_rng hc RD
  obtain ⟨y, hy⟩ : ∃ y, fb 100 = y := ⟨_, rfl⟩
  rw [hy] at k100
  have hD : dsF c fb = put1 fb 100 (bits .or .u8 y (bitOf c)) := by unfold dsF; rw [hy]
  obtain ⟨y2, hy2⟩ : ∃ q, bits .or .u8 y (bitOf c) = q := ⟨_, rfl⟩
  rw [hy2] at hD
  have a4 := A3.out.put1 (i := 100) (by omega) y2
  rw [← hD] at a4
  have d102 : dsF c fb 102 = x2 := by rw [hD, put1_ne (by omega)]; exact G102.out
  have k102' := a4.cell (j := 102) (by omega)
  rw [d102] at k102'
  have f102' := a4.frozen 102
  have hO : ovF c (dsF c fb) = put1 (dsF c fb) 102 (bits .andNot .u8 x2 (bitOf c)) := by unfold ovF; rw [d102]
  obtain ⟨y3, hy3⟩ : ∃ y, bits .andNot .u8 x2 (bitOf c) = y := ⟨_, rfl⟩
  rw [hy3] at hO
  have a5 := a4.put1 (i := 102) (by omega) y3
  rw [← hO] at a5
  have BG := Lib.hid (begin_gen a5 RO HB3.out)
  have U5 := Lib.hid ((U3.out.set 100 (.int .u8 y2)).set 102 (.int .u8 y3))
  clear a4 a5 hD hO RD RO HB3 d102 hy
  go_wp2_with fail
  try go_step3
  go_wp2_with fail
  try go_step3
  go_wp2_with fail
  refine BG.out.mono ?_
  rintro e w5 ⟨rfl, a6, u6⟩
  have A6 := Lib.hid a6
  have U6 := Lib.hid (U5.out.trans u6)
  clear a6 u6
  go_wp2_with fail
  (first | rw [noGoto_normal] | rw [onceG_normal] | skip)
  go_wp2_with fail
  go_end0
  exact ⟨rfl, A6.out, U6.out⟩
end
end Go.Proofs.Ytkeikkkcmackeaa
