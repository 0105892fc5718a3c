/- dma, the document's counted, begin, Frame. -/
import Derived.Test.YtkeikkkcmackeaaDmaKb
import Derived.Test.YtkeikkkcmackeaaDmaKcs
import Derived.StillTailTactics
namespace Go.Proofs.Ytkeikkkcmackeaa
open Go.RowKit
set_option linter.unusedVariables false
set_option linter.unusedSimpArgs false
set_option maxRecDepth 100000
theorem and128 (z : Int) (z0 : 0 ≤ z) (z1 : z ≤ 255) : (bits .and .u8 z 128 != 0) = decide (128 ≤ z) := byte_fact (P := fun z => (bits .and .u8 z 128 != 0) = decide (128 ≤ z)) (by decide +kernel) z z0 z1
/-- What the document's begin does from f. -/
def DBeg (B : Nat) (f r : Nat → Int) : Prop := ∀ w', Ra w' B f → Calls Try.prog 47 #[at_ B 0] w' (WroteR w' B r (.tuple #[]))
section
variable {w : World} {B : Nat} {f r : Nat → Int}
set_option maxHeartbeats 4000000 in
theorem dcounted_gen (A : Ra w B f) (R : Rng f) (c : Nat) (hc : c < 8) (HB1 : (cntF c f).1 = true → DBeg B (cntF c f).2 r) (HB0 : (cntF c f).1 = false → r = (cntF c f).2) :
    Calls Try.prog 74 #[at_ B 0, .int .i64 c] w (WroteR w B r (.tuple #[])) := by
  have c10 := A.cell (j := c * 12 + 10) (by omega)
  have f10 := A.frozen (c * 12 + 10)
  have r10 := R (c * 12 + 10)
  have zc : (c : Int) < 8 := by omega
  have ha : cntA c f = put1 f (c * 12 + 10) ((f (c * 12 + 10) - 1) % 256) := rfl
  have RA : Rng (cntA c f) := by rw [ha]; exact R.put1 _ (by omega) (by omega)
  have a1 := Ra.put1 A (i := c * 12 + 10) (by omega) ((f (c * 12 + 10) - 1) % 256)
  rw [← ha] at a1
  have e10 : (cntA c f) (c * 12 + 10) = (f (c * 12 + 10) - 1) % 256 := by rw [ha]; unfold put1; rw [if_pos rfl]
  obtain ⟨z, hz⟩ : ∃ z, (f (c * 12 + 10) - 1) % 256 = z := ⟨_, rfl⟩
  have z0 : 0 ≤ z := by omega
  have z1 : z ≤ 255 := by omega
  have ew : IntKind.u8.wrap (f (c * 12 + 10) - 1) = z := by rw [IntKind.wrap_u8]; exact hz
  rw [hz] at a1 e10
  obtain ⟨fa, hfa⟩ : ∃ fa, cntA c f = fa := ⟨_, rfl⟩
  rw [hfa] at RA a1 e10
  have A1 := Lib.hid a1
  obtain ⟨q, hq⟩ : ∃ q : Bool, decide (128 ≤ z) = q := ⟨_, rfl⟩
  have rfa := RA 100
  have pr := pt_rng' c hc q rfa.1 rfa.2
  have hb : cntB c fa = put1 fa 100 (pt (fa 100) (bitOf c) q) := by unfold cntB; rw [e10, and128 z z0 z1, hq]
  have RB : Rng (cntB c fa) := by rw [hb]; exact RA.put1 _ pr.1 pr.2
  have eb10 : (cntB c fa) (c * 12 + 10) = z := by rw [hb]; unfold put1; rw [if_neg (by omega)]; exact e10
  have WI := Lib.hid (fun w' => dwith_any (fa 100) c hc q w' rfa.1 rfa.2)
  have WE := Lib.hid (fun w' => dwith_eq (fa 100) c hc q w' rfa.1 rfa.2)
  obtain ⟨y, hy⟩ : ∃ y, pt (fa 100) (bitOf c) q = y := ⟨_, rfl⟩
  rw [hy] at hb WI WE
  obtain ⟨fb, hfb⟩ : ∃ fb, cntB c fa = fb := ⟨_, rfl⟩
  rw [hfb] at eb10 hb RB
  have HF : Hid (cntF c f = cntC c fb) := by unfold cntF; rw [hfa, hfb]; exact rfl
  have rb := RB 102
  have W2 := Lib.hid (fun w' => dwith_any (fb 102) c hc false w' rb.1 rb.2)
  rw [pt_false] at W2
  have em : z.tmod 128 = z % 128 := Int.tmod_eq_emod_of_nonneg z0
  have HE := Lib.hid eb10
  have HE0 := Lib.hid e10
  have HBB := Lib.hid hb
  have G1 := Lib.hid HB1
  have G0 := Lib.hid HB0
  obtain ⟨x100, hx100⟩ : ∃ x, fa 100 = x := ⟨_, rfl⟩
  have HX := Lib.hid hx100
  rw [hx100] at WI WE
  clear A R r10 ha RA a1 e10 hz hfa hb eb10 hfb HB1 HB0 rfa pr RB rb hy hx100
  have wq : decide (128 ≤ z) = q := hq
  go_enter Try.func74, Try.ntmps74
  go_upto_region 0 with (fail)
  go_cut [] from 4 to 17 (fun wx => Ra wx B fa ∧ Upd w B wx)
  case first =>
    go_region_with (fail)
    all_goals
      go_wp2_with fail
      go_meet
      exact ⟨A1.out, ((Upd.refl _ _).set _ _).drew⟩
  case rest =>
    obtain ⟨a1, u1⟩ := hcut
    have c10' := a1.cell (j := c * 12 + 10) (by omega)
    rw [HE0.out] at c10'
    have c100 := a1.cell (j := 100) (by omega)
    have f100 := a1.frozen 100
    rw [HX.out] at c100
    have A2 := Lib.hid a1
    have U2 := Lib.hid u1
    clear a1 u1 A1 c10 f10 ew
    go_upto_region 1 with (fail)
    go_cut [] from 18 to 34 (fun wx => Ra wx B fb ∧ Upd wc B wx)
    case first =>
      obtain ⟨wd, hwd⟩ : ∃ wd, wd = wc.drew := ⟨_, rfl⟩
      have c10 : wd.cell? ⟨B, c * 12 + 10, none⟩ = some (.int .u8 z) := by rw [hwd]; exact c10'
      have c100 : wd.cell? ⟨B, 100, none⟩ = some (.int .u8 x100) := by rw [hwd]; exact c100
      have f100 : wd.frozen? ⟨B, 100, none⟩ = false := by rw [hwd]; exact f100
      have AD : Hid (Ra wd B fa) := by rw [hwd]; exact A2.out
      have UD : Hid (Upd wc B wd) := by rw [hwd]; exact (Upd.refl _ _).drew
      have X2 : Hid (Ra (wd.setCell ⟨B, 100, none⟩ (.int .u8 y)) B fb) := Lib.hid (by rw [HBB.out]; exact Ra.put1 AD.out (by omega) _)
      clear c10' hq
      refine wp_region_still_tail 17 (by kernel_rfl) (by kernel_rfl) ?_
      change wpStill _ _ (World.drew _) (fun a' => wpList _ _ _ _ a' (World.drew _)) _ _
      rw [← hwd]
      clear hwd
      simp only [List.take_succ_cons, List.take_zero, List.drop_succ_cons, List.drop_zero]
      have WD : Calls Try.prog 44 #[.int .u8 x100, .int .i64 c, .bool q] wd (fun e w'' => e = .returned (.int .u8 y) ∧ w'' = wd) := (WE.out wd).mono (fun e w' ⟨h1, h2⟩ => ⟨h1, h2.symm⟩)
      repeat still_step
      still_call WD
      repeat still_step
      refine wpStill_nil ?_
      go_wp2_with fail
      go_meet
      exact ⟨X2.out, UD.out.set _ _⟩
    case rest =>
      obtain ⟨ha3, hu3⟩ := hcut
      have A3 := Lib.hid ha3
      have U3 := Lib.hid (U2.out.trans hu3)
      have c10 := ha3.cell (j := c * 12 + 10) (by omega)
      rw [HE.out] at c10
      have c103 := ha3.cell (j := 103) (by omega)
      have f103 := ha3.frozen 103
      have c102 := ha3.cell (j := 102) (by omega)
      have KF : Hid (∀ w', Below wc.heap.size wc w' → Ra w' B fb) := Lib.hid (fun w' hb => Arr.kept ha3 hb)
      clear ha3 hu3 A2 U2 c10' c100 f100 WI
      by_cases hz0 : z % 128 = 0
      · have hcf : cntC c fb = (false, put1 fb 103 8) := by unfold cntC; rw [HE.out, if_pos hz0]
        have HR : Hid (r = put1 fb 103 8) := Lib.hid (by
          have h := HF.out.trans hcf
          have := G0.out (by rw [h])
          rw [this, h])
        rw [hz0] at em
        clear hcf hz0 G1 G0
        go_wp2_with fail
        go_end0
        rw [HR.out]
        exact ⟨rfl, Ra.put1 A3.out (by omega) _, U3.out.set _ _⟩
      · have hcf : cntC c fb = (true, put1 fb 102 (bits .andNot .u8 (fb 102) (bitOf c))) := by unfold cntC; rw [HE.out, if_neg hz0]
        have BG : Hid (DBeg B (put1 fb 102 (bits .andNot .u8 (fb 102) (bitOf c))) r) := Lib.hid (by
          have h := HF.out.trans hcf
          have := G1.out (by rw [h])
          rw [h] at this; exact this)
        have t : (z % 128 == 0) = false := by simpa using hz0
        obtain ⟨x2, hx2⟩ : ∃ x, fb 102 = x := ⟨_, rfl⟩
        rw [hx2] at W2 c102 BG
        obtain ⟨y2, hy2⟩ : ∃ y, bits .andNot .u8 x2 (bitOf c) = y := ⟨_, rfl⟩
        rw [hy2] at W2 BG
        clear hcf G1 G0 hx2 hy2 c103 f103
        go_wp2_with fail
        refine (W2.out _).mono ?_
        rintro e w4 ⟨rfl, hb4⟩
        have a4 := KF.out w4 hb4
        have c102 := keepC hb4 c102
        have f102 := a4.frozen 102
        have a5 := Ra.put1 a4 (i := 102) (by omega) y2
        have BC := Lib.hid (BG.out _ a5)
        have U5 := Lib.hid ((U3.out.trans (Upd.ofBelow hb4 B)).set 102 (.int .u8 y2))
        clear a4 a5 hb4 KF W2 BG
        go_wp2_with fail
        refine BC.out.mono ?_
        rintro e w6 ⟨rfl, a6, u6⟩
        have A6 := Lib.hid a6
        have U6 := Lib.hid (U5.out.trans u6)
        clear a6 u6
        go_wp2_with fail
        go_end0
        exact ⟨rfl, A6.out, U6.out⟩
set_option maxHeartbeats 8000000 in
theorem dbegin_gen (H : Beg r f) (R : Rng f) : DBeg B f r := by
  induction H with
  | @none f h0 hr =>
    intro w A
    have f103 := A.frozen 103
    have c103 := A.cell (j := 103) (by omega)
    have a1 := Ra.put1 A (i := 103) (by omega) 0
    have e2 : put1 f 103 0 102 = f 102 := put1_ne (by decide)
    have c102 := a1.cell (j := 102) (by omega)
    rw [e2, h0] at c102
    have K2 : Hid (∀ w', Below (w.setCell ⟨B, 103, none⟩ (.int .u8 0)).heap.size (w.setCell ⟨B, 103, none⟩ (.int .u8 0)) w' → Ra w' B (put1 f 103 0)) := Lib.hid (fun w' hb => Arr.kept a1 hb)
    have LE := Lib.hid (fun w' => rleast_any 0 w' (by omega) (by omega))
    rw [low_zero] at LE
    have HR := Lib.hid hr
    clear A a1 e2 h0 hr R
    go_enter Try.func47, Try.ntmps47
    go_wp2_with fail
    refine (LE.out _).mono ?_
    rintro e w2 ⟨rfl, hb2⟩
    have a2 := K2.out w2 hb2
    have c101 := a2.cell (j := 101) (by omega)
    have f101 := a2.frozen 101
    have A2 := Lib.hid a2
    have U2 := Lib.hid (((Upd.refl w B).set 103 (.int .u8 0)).trans (Upd.ofBelow hb2 B))
    clear a2 hb2 K2 LE c102 c103 f103
    go_wp2_with fail
    go_end0
    rw [HR.out]
    exact ⟨rfl, Ra.put1 A2.out (by omega) _, U2.out.set _ _⟩
  | @frame f h0 h1 hr =>
    intro w A
    have f103 := A.frozen 103
    have c103 := A.cell (j := 103) (by omega)
    have a1 := Ra.put1 A (i := 103) (by omega) 0
    have e2 : put1 f 103 0 102 = f 102 := put1_ne (by decide)
    have e1 : put1 f 103 0 101 = f 101 := put1_ne (by decide)
    have e0 : put1 f 103 0 100 = f 100 := put1_ne (by decide)
    have e9 : put1 f 103 0 99 = f 99 := put1_ne (by decide)
    have c102 := a1.cell (j := 102) (by omega)
    rw [e2] at c102
    obtain ⟨hc, hf⟩ := low_of R h0
    have LE := Lib.hid (fun w' => rleast_any (f 102) w' (R 102).1 (R 102).2)
    obtain ⟨c, hcc⟩ : ∃ c, lowC (f 102) = c := ⟨_, rfl⟩
    rw [hcc] at LE hc hr
    have zc : (c : Int) < 8 := by omega
    have t8 : ((c : Int) == 8) = false := by simp; omega
    have R1 : Rng (put1 f 103 0) := R.put1 _ (by omega) (by omega)
    have K2 : Hid (∀ w', Below (w.setCell ⟨B, 103, none⟩ (.int .u8 0)).heap.size (w.setCell ⟨B, 103, none⟩ (.int .u8 0)) w' → Ra w' B (put1 f 103 0)) := Lib.hid (fun w' hb => Arr.kept a1 hb)
    have hF : r = put1 (put2 (put1 (put1 f 103 0) 99 (pt (put1 f 103 0 99) (bitOf c) false)) (c * 12 + 8) (wordOf (put1 (put1 f 103 0) 99 (pt (put1 f 103 0 99) (bitOf c) false)) (c * 12 + 2))) 103 8 := by rw [hr]; unfold frmF; rw [e9]
    obtain ⟨x2, hx2⟩ : ∃ x, f 102 = x := ⟨_, rfl⟩
    rw [hx2] at c102 LE
    rw [h1] at e1
    have r99 := R1 99
    have pr := pt_rng' c hc false r99.1 r99.2
    have WI := Lib.hid (fun w' => dwith_any (put1 f 103 0 99) c hc false w' r99.1 r99.2)
    have R2 : Rng (put1 (put1 f 103 0) 99 (pt (put1 f 103 0 99) (bitOf c) false)) := R1.put1 _ pr.1 pr.2
    obtain ⟨f1, hf1⟩ : ∃ f1, put1 f 103 0 = f1 := ⟨_, rfl⟩
    rw [hf1] at K2 R1 hF e1 WI R2
    obtain ⟨y, hy⟩ : ∃ y, pt (f1 99) (bitOf c) false = y := ⟨_, rfl⟩
    rw [hy] at WI R2 hF
    obtain ⟨f2, hf2⟩ : ∃ f2, put1 f1 99 y = f2 := ⟨_, rfl⟩
    have HF2 := Lib.hid hf2
    rw [hf2] at R2 hF
    have WD := Lib.hid (fun (w' : World) (A' : Ra w' B f2) => dword_any A' R2 c 2 hc (by omega))
    obtain ⟨z0, z1⟩ := wordOf_rng R2 (c * 12 + 2)
    have SE := Lib.hid (fun (w' : World) (A' : Ra w' B f2) => dset_any A' c 8 hc (by omega) (wordOf f2 (c * 12 + 2)) (by omega) (by omega))
    rw [show wordOf f2 (c * 12 + 2) % 65536 = wordOf f2 (c * 12 + 2) by omega] at SE
    obtain ⟨z, hz⟩ : ∃ z, wordOf f2 (c * 12 + 2) = z := ⟨_, rfl⟩
    rw [hz] at WD SE hF
    have HFF := Lib.hid hF
    have E1 := Lib.hid e1
    clear A R a1 e2 e1 e0 e9 R1 R2 hf1 hf2 hz hF hr r99 pr hcc hx2 h0 h1 hf hy z0 z1
    go_enter Try.func47, Try.ntmps47
    go_wp2_with fail
    refine (LE.out _).mono ?_
    rintro e w2 ⟨rfl, hb2⟩
    have a2 := K2.out w2 hb2
    have c101 := a2.cell (j := 101) (by omega)
    rw [E1.out] at c101
    have c99 := a2.cell (j := 99) (by omega)
    have A2 : Hid (∀ w', Below w2.heap.size w2 w' → Ra w' B f1) := Lib.hid (fun w' hb => Arr.kept a2 hb)
    have U2 := Lib.hid (((Upd.refl w B).set 103 (.int .u8 0)).trans (Upd.ofBelow hb2 B))
    clear a2 hb2 K2 LE c102 c103 f103 E1
    go_wp2_with fail
    refine (WI.out _).mono ?_
    rintro e w3 ⟨rfl, hb3⟩
    have a3 := A2.out w3 hb3
    have f99 := a3.frozen 99
    have c99 := a3.cell (j := 99) (by omega)
    have a4 := Ra.put1 a3 (i := 99) (by omega) y
    rw [HF2.out] at a4
    have A4 := Lib.hid a4
    have U4 := Lib.hid ((U2.out.trans (Upd.ofBelow hb3 B)).set 99 (.int .u8 y))
    clear a3 a4 hb3 A2 WI
    go_wp2_with fail
    refine (WD.out _ A4.out).mono ?_
    rintro e w5 ⟨rfl, hb5⟩
    have A5 := Lib.hid (Arr.kept A4.out hb5)
    have U5 := Lib.hid (U4.out.trans (Upd.ofBelow hb5 B))
    clear hb5 A4 U4 WD c99 f99
    go_wp2_with fail
    refine (SE.out _ A5.out).mono ?_
    rintro e w6 ⟨rfl, a6, u6⟩
    have f103 := a6.frozen 103
    have c103 := a6.cell (j := 103) (by omega)
    have A6 := Lib.hid a6
    have U6 := Lib.hid (U5.out.trans u6)
    clear a6 u6 A5 U5 SE
    go_wp2_with fail
    go_end0
    rw [HFF.out]
    exact ⟨rfl, Ra.put1 A6.out (by omega) _, U6.out.set _ _⟩
  | @does f h0 h1 h2 hr =>
    intro w A
    have f103 := A.frozen 103
    have c103 := A.cell (j := 103) (by omega)
    have a1 := Ra.put1 A (i := 103) (by omega) 0
    have e2 : put1 f 103 0 102 = f 102 := put1_ne (by decide)
    have e1 : put1 f 103 0 101 = f 101 := put1_ne (by decide)
    have e0 : put1 f 103 0 100 = f 100 := put1_ne (by decide)
    have e9 : put1 f 103 0 99 = f 99 := put1_ne (by decide)
    have c102 := a1.cell (j := 102) (by omega)
    rw [e2] at c102
    obtain ⟨hc, hf⟩ := low_of R h0
    have LE := Lib.hid (fun w' => rleast_any (f 102) w' (R 102).1 (R 102).2)
    obtain ⟨c, hcc⟩ : ∃ c, lowC (f 102) = c := ⟨_, rfl⟩
    rw [hcc] at LE hc h2
    have zc : (c : Int) < 8 := by omega
    have t8 : ((c : Int) == 8) = false := by simp; omega
    have R1 : Rng (put1 f 103 0) := R.put1 _ (by omega) (by omega)
    have K2 : Hid (∀ w', Below (w.setCell ⟨B, 103, none⟩ (.int .u8 0)).heap.size (w.setCell ⟨B, 103, none⟩ (.int .u8 0)) w' → Ra w' B (put1 f 103 0)) := Lib.hid (fun w' hb => Arr.kept a1 hb)
    have t1 : (f 101 == 1) = false := by simpa using h1
    have BI := Lib.hid (fun w' => bit_any (f 100) c (by omega) w' (R 100).1 (R 100).2)
    rw [decide_eq_true h2] at BI
    have HR := Lib.hid hr
    obtain ⟨x2, hx2⟩ : ∃ x, f 102 = x := ⟨_, rfl⟩
    rw [hx2] at c102 LE
    obtain ⟨x1, hx1⟩ : ∃ x, f 101 = x := ⟨_, rfl⟩
    rw [hx1] at e1 t1
    obtain ⟨x0, hx0⟩ : ∃ x, f 100 = x := ⟨_, rfl⟩
    rw [hx0] at e0 BI
    obtain ⟨f1, hf1⟩ : ∃ f1, put1 f 103 0 = f1 := ⟨_, rfl⟩
    have HF1 := Lib.hid hf1
    rw [hf1] at K2 e1 e0
    have E1 := Lib.hid e1
    have E0 := Lib.hid e0
    clear A R a1 e2 e1 e0 e9 R1 hf1 hr hcc hx2 hx1 hx0 h0 h1 h2 hf
    go_enter Try.func47, Try.ntmps47
    go_wp2_with fail
    refine (LE.out _).mono ?_
    rintro e w2 ⟨rfl, hb2⟩
    have a2 := K2.out w2 hb2
    have c101 := a2.cell (j := 101) (by omega)
    rw [E1.out] at c101
    have c100 := a2.cell (j := 100) (by omega)
    rw [E0.out] at c100
    have A2 : Hid (∀ w', Below w2.heap.size w2 w' → Ra w' B f1) := Lib.hid (fun w' hb => Arr.kept a2 hb)
    have U2 := Lib.hid (((Upd.refl w B).set 103 (.int .u8 0)).trans (Upd.ofBelow hb2 B))
    clear a2 hb2 K2 LE c102 c103 f103 E1 E0
    go_wp2_with fail
    refine (BI.out _).mono ?_
    rintro e w3 ⟨rfl, hb3⟩
    have A3 := Lib.hid (A2.out w3 hb3)
    have U3 := Lib.hid (U2.out.trans (Upd.ofBelow hb3 B))
    clear hb3
    go_wp2_with fail
    go_end0
    rw [HR.out, HF1.out]
    exact ⟨rfl, A3.out, U3.out⟩
  | @stop f h0 h1 h2 hq hr =>
    intro w A
    have f103 := A.frozen 103
    have c103 := A.cell (j := 103) (by omega)
    have a1 := Ra.put1 A (i := 103) (by omega) 0
    have e2 : put1 f 103 0 102 = f 102 := put1_ne (by decide)
    have e1 : put1 f 103 0 101 = f 101 := put1_ne (by decide)
    have e0 : put1 f 103 0 100 = f 100 := put1_ne (by decide)
    have e9 : put1 f 103 0 99 = f 99 := put1_ne (by decide)
    have c102 := a1.cell (j := 102) (by omega)
    rw [e2] at c102
    obtain ⟨hc, hf⟩ := low_of R h0
    have LE := Lib.hid (fun w' => rleast_any (f 102) w' (R 102).1 (R 102).2)
    obtain ⟨c, hcc⟩ : ∃ c, lowC (f 102) = c := ⟨_, rfl⟩
    rw [hcc] at LE hc h2 hq hr
    have zc : (c : Int) < 8 := by omega
    have t8 : ((c : Int) == 8) = false := by simp; omega
    have R1 : Rng (put1 f 103 0) := R.put1 _ (by omega) (by omega)
    have K2 : Hid (∀ w', Below (w.setCell ⟨B, 103, none⟩ (.int .u8 0)).heap.size (w.setCell ⟨B, 103, none⟩ (.int .u8 0)) w' → Ra w' B (put1 f 103 0)) := Lib.hid (fun w' hb => Arr.kept a1 hb)
    have t1 : (f 101 == 1) = false := by simpa using h1
    have BI := Lib.hid (fun w' => bit_any (f 100) c (by omega) w' (R 100).1 (R 100).2)
    rw [decide_eq_false h2] at BI
    obtain ⟨x2, hx2⟩ : ∃ x, f 102 = x := ⟨_, rfl⟩
    rw [hx2] at c102 LE
    obtain ⟨x1, hx1⟩ : ∃ x, f 101 = x := ⟨_, rfl⟩
    rw [hx1] at e1 t1
    obtain ⟨x0, hx0⟩ : ∃ x, f 100 = x := ⟨_, rfl⟩
    rw [hx0] at e0 BI
    have CN : Hid (∀ w', Ra w' B (put1 f 103 0) → Calls Try.prog 74 #[at_ B 0, .int .i64 c] w' (WroteR w' B r (.tuple #[]))) := Lib.hid (fun w' A' => dcounted_gen A' R1 c hc (fun h => by rw [hq] at h; cases h) (fun _ => hr))
    obtain ⟨f1, hf1⟩ : ∃ f1, put1 f 103 0 = f1 := ⟨_, rfl⟩
    rw [hf1] at K2 e1 e0 CN
    have E1 := Lib.hid e1
    have E0 := Lib.hid e0
    clear A R a1 e2 e1 e0 e9 R1 hf1 hcc hx2 hx1 hx0 h0 h1 h2 hf hq hr
    go_enter Try.func47, Try.ntmps47
    go_wp2_with fail
    refine (LE.out _).mono ?_
    rintro e w2 ⟨rfl, hb2⟩
    have a2 := K2.out w2 hb2
    have c101 := a2.cell (j := 101) (by omega)
    rw [E1.out] at c101
    have c100 := a2.cell (j := 100) (by omega)
    rw [E0.out] at c100
    have A2 : Hid (∀ w', Below w2.heap.size w2 w' → Ra w' B f1) := Lib.hid (fun w' hb => Arr.kept a2 hb)
    have U2 := Lib.hid (((Upd.refl w B).set 103 (.int .u8 0)).trans (Upd.ofBelow hb2 B))
    clear a2 hb2 K2 LE c102 c103 f103 E1 E0
    go_wp2_with fail
    refine (BI.out _).mono ?_
    rintro e w3 ⟨rfl, hb3⟩
    have CC := Lib.hid (CN.out w3 (A2.out w3 hb3))
    have U3 := Lib.hid (U2.out.trans (Upd.ofBelow hb3 B))
    clear hb3 CN A2
    go_wp2_with fail
    refine CC.out.mono ?_
    rintro e w4 ⟨rfl, a4, u4⟩
    have A4 := Lib.hid a4
    have U4 := Lib.hid (U3.out.trans u4)
    clear a4 u4
    go_wp2_with fail
    go_end0
    exact ⟨rfl, A4.out, U4.out⟩
  | @again f h0 h1 h2 hq hb ih =>
    intro w A
    have f103 := A.frozen 103
    have c103 := A.cell (j := 103) (by omega)
    have a1 := Ra.put1 A (i := 103) (by omega) 0
    have e2 : put1 f 103 0 102 = f 102 := put1_ne (by decide)
    have e1 : put1 f 103 0 101 = f 101 := put1_ne (by decide)
    have e0 : put1 f 103 0 100 = f 100 := put1_ne (by decide)
    have e9 : put1 f 103 0 99 = f 99 := put1_ne (by decide)
    have c102 := a1.cell (j := 102) (by omega)
    rw [e2] at c102
    obtain ⟨hc, hf⟩ := low_of R h0
    have LE := Lib.hid (fun w' => rleast_any (f 102) w' (R 102).1 (R 102).2)
    obtain ⟨c, hcc⟩ : ∃ c, lowC (f 102) = c := ⟨_, rfl⟩
    rw [hcc] at LE hc h2 hq hb ih
    have zc : (c : Int) < 8 := by omega
    have t8 : ((c : Int) == 8) = false := by simp; omega
    have R1 : Rng (put1 f 103 0) := R.put1 _ (by omega) (by omega)
    have K2 : Hid (∀ w', Below (w.setCell ⟨B, 103, none⟩ (.int .u8 0)).heap.size (w.setCell ⟨B, 103, none⟩ (.int .u8 0)) w' → Ra w' B (put1 f 103 0)) := Lib.hid (fun w' hb => Arr.kept a1 hb)
    have t1 : (f 101 == 1) = false := by simpa using h1
    have BI := Lib.hid (fun w' => bit_any (f 100) c (by omega) w' (R 100).1 (R 100).2)
    rw [decide_eq_false h2] at BI
    obtain ⟨x2, hx2⟩ : ∃ x, f 102 = x := ⟨_, rfl⟩
    rw [hx2] at c102 LE
    obtain ⟨x1, hx1⟩ : ∃ x, f 101 = x := ⟨_, rfl⟩
    rw [hx1] at e1 t1
    obtain ⟨x0, hx0⟩ : ∃ x, f 100 = x := ⟨_, rfl⟩
    rw [hx0] at e0 BI
    have CN : Hid (∀ w', Ra w' B (put1 f 103 0) → Calls Try.prog 74 #[at_ B 0, .int .i64 c] w' (WroteR w' B r (.tuple #[]))) := Lib.hid (fun w' A' => dcounted_gen A' R1 c hc (fun _ => ih (cntF_rng R1 c hc)) (fun h => by rw [hq] at h; cases h))
    obtain ⟨f1, hf1⟩ : ∃ f1, put1 f 103 0 = f1 := ⟨_, rfl⟩
    rw [hf1] at K2 e1 e0 CN
    have E1 := Lib.hid e1
    have E0 := Lib.hid e0
    clear A R a1 e2 e1 e0 e9 R1 hf1 hcc hx2 hx1 hx0 h0 h1 h2 hf hq hb ih
    go_enter Try.func47, Try.ntmps47
    go_wp2_with fail
    refine (LE.out _).mono ?_
    rintro e w2 ⟨rfl, hb2⟩
    have a2 := K2.out w2 hb2
    have c101 := a2.cell (j := 101) (by omega)
    rw [E1.out] at c101
    have c100 := a2.cell (j := 100) (by omega)
    rw [E0.out] at c100
    have A2 : Hid (∀ w', Below w2.heap.size w2 w' → Ra w' B f1) := Lib.hid (fun w' hb => Arr.kept a2 hb)
    have U2 := Lib.hid (((Upd.refl w B).set 103 (.int .u8 0)).trans (Upd.ofBelow hb2 B))
    clear a2 hb2 K2 LE c102 c103 f103 E1 E0
    go_wp2_with fail
    refine (BI.out _).mono ?_
    rintro e w3 ⟨rfl, hb3⟩
    have CC := Lib.hid (CN.out w3 (A2.out w3 hb3))
    have U3 := Lib.hid (U2.out.trans (Upd.ofBelow hb3 B))
    clear hb3 CN A2
    go_wp2_with fail
    refine CC.out.mono ?_
    rintro e w4 ⟨rfl, a4, u4⟩
    have A4 := Lib.hid a4
    have U4 := Lib.hid (U3.out.trans u4)
    clear a4 u4
    go_wp2_with fail
    go_end0
    exact ⟨rfl, A4.out, U4.out⟩
set_option maxHeartbeats 2000000 in
theorem dframe_gen (A : Ra w B f) (R : Rng f) (H : Beg r (put1 (put1 f 101 1) 102 (f 98))) :
    Calls Try.prog 22 #[at_ B 0] w (WroteR w B r (.tuple #[])) := by
  have c98 := A.cell (j := 98) (by omega)
  have c101 := A.cell (j := 101) (by omega)
  have c102 := A.cell (j := 102) (by omega)
  have f101 := A.frozen 101
  have f102 := A.frozen 102
  have a1 := Ra.put1 A (i := 101) (by omega) 1
  have d98 := a1.cell (j := 98) (by omega)
  rw [put1_ne (by decide)] at d98
  have a2 := Ra.put1 a1 (i := 102) (by omega) (f 98)
  have R2 : Rng (put1 (put1 f 101 1) 102 (f 98)) := (R.put1 _ (by omega) (by omega)).put1 _ (R 98).1 (R 98).2
  have BG := Lib.hid (dbegin_gen H R2 _ a2)
  obtain ⟨x, hx⟩ : ∃ x, f 98 = x := ⟨_, rfl⟩
  rw [hx] at c98 BG d98
  clear A R a1 a2 R2 H hx
  go_enter Try.func22, Try.ntmps22
  go_wp2_with fail
  refine BG.out.mono ?_
  rintro e w2 ⟨rfl, a3, u3⟩
  have A3 := Lib.hid a3
  have U3 := Lib.hid ((((Upd.refl w B).set 101 (.int .u8 1)).set 102 (.int .u8 x)).trans u3)
  clear a3 u3
  go_wp2_with fail
  go_end0
  exact ⟨rfl, A3.out, U3.out⟩
end
end Go.Proofs.Ytkeikkkcmackeaa
