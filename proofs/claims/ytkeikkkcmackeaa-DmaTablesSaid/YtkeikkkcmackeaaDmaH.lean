/- The channels with tables begin, go on, end. -/
import Derived.Test.YtkeikkkcmackeaaDmaG
import Derived.Test.YtkeikkkcmackeaaGoto
namespace Go.Proofs.Ytkeikkkcmackeaa
open Go.RowKit
set_option linter.unusedVariables false
set_option linter.unusedSimpArgs false
set_option maxRecDepth 100000

def endF (f : Nat → Int) : Nat → Int := put1 (put1 f 103 0) 101 0
section
variable {w : World} {g : Nat} {f : Nat → Int}
set_option maxHeartbeats 1000000 in
theorem begin_none (A : Da w g f) (hb : f 102 = 0) :
    Calls Try.prog 43 #[.pointer (some ⟨g, 0, none⟩)] w (Wrote w g (endF f) (.tuple #[])) := by
  have f103 := A.frozen 103
  have f101 := A.frozen 101
  have c103 := A.cell (j := 103) (by omega)
  have a1 := A.put1 (i := 103) (by omega) 0
  have c102 := a1.cell (j := 102) (by omega)
  have c101 := a1.cell (j := 101) (by omega)
  have e : put1 f 103 0 102 = 0 := by unfold put1; rw [if_neg (by decide)]; exact hb
  rw [e] at c102
  have A1 := Lib.hid a1
  have LN := Lib.hid (fun (w' : World) (A' : Da w' g (put1 f 103 0)) => least_none A')
  clear A a1 e hb
  go_enter Try.func43, Try.ntmps43
  go_step3
  go_wp2_with fail
  go_step3
  go_wp2_with fail
  refine (LN.out _ A1.out).mono ?_
  rintro e w2 ⟨rfl, hb2⟩
  have a2 := A1.out.kept hb2
  have c101 := a2.cell (j := 101) (by omega)
  have f101 := a2.frozen 101
  have A2 := Lib.hid a2
  have U2 := Lib.hid (((Upd.refl w g).set 103 (.int .u8 0)).trans (Upd.ofBelow hb2 g))
  clear a2 hb2 c102 A1 LN c103 f103
  go_wp2_with fail
  rw [Exit.noGoto_ret]
  go_end0
  exact ⟨rfl, A2.out.put1 (by omega) _, U2.out.set _ _⟩

def frmF (c : Nat) (f : Nat → Int) : Nat → Int :=
  let f2 := put1 (put1 f 103 0) 99 (pt (f 99) (bitOf c) false)
  put1 (put2 f2 (c * 12 + 8) (wordOf f2 (c * 12 + 2))) 103 8
set_option maxHeartbeats 2000000 in
/-- A frame: a table begins. -/
theorem begin_frame (A : Da w g f) (R : Rng f) (c : Nat) (hc : c < 8) (hb : f 102 = bitOf c) (hw : f 101 = 1) :
    Calls Try.prog 43 #[.pointer (some ⟨g, 0, none⟩)] w (Wrote w g (frmF c f) (.tuple #[])) := by
  obtain ⟨b0, b1, bf, _⟩ := bit_rng c hc
  have f103 := A.frozen 103
  have c103 := A.cell (j := 103) (by omega)
  have a1 := A.put1 (i := 103) (by omega) 0
  have c102 := a1.cell (j := 102) (by omega)
  have c101 := a1.cell (j := 101) (by omega)
  have e : put1 f 103 0 102 = bitOf c := by unfold put1; rw [if_neg (by decide)]; exact hb
  have e2 : put1 f 103 0 101 = 1 := by unfold put1; rw [if_neg (by decide)]; exact hw
  have e3 : put1 f 103 0 99 = f 99 := by unfold put1; rw [if_neg (by decide)]
  have R1 : Rng (put1 f 103 0) := R.put1 _ (by omega) (by omega)
  have hF : frmF c f = put1 (put2 (put1 (put1 f 103 0) 99 (pt (put1 f 103 0 99) (bitOf c) false)) (c * 12 + 8) (wordOf (put1 (put1 f 103 0) 99 (pt (put1 f 103 0 99) (bitOf c) false)) (c * 12 + 2))) 103 8 := by unfold frmF; rw [e3]
  obtain ⟨f1, hf1⟩ : ∃ f1, put1 f 103 0 = f1 := ⟨_, rfl⟩
  rw [hf1] at a1 e e2 R1 hF c102 c101
  rw [e] at c102
  rw [e2] at c101
  have A1 := Lib.hid a1
  have LN := Lib.hid (fun (w' : World) (A' : Da w' g f1) => least_any A' c hc (bitOf c) bf)
  have PU := Lib.hid (fun (w' : World) (A' : Da w' g f1) => put_any A' 99 (by omega) (bitOf c) false)
  have r99 := R1 99
  have R2 : Rng (put1 f1 99 (pt (f1 99) (bitOf c) false)) := by
    refine R1.put1 _ ?_ ?_
    · exact (u8_andNot_rng _ _ r99.1 r99.2 b0 b1).1
    · exact (u8_andNot_rng _ _ r99.1 r99.2 b0 b1).2
  obtain ⟨f2, hf2⟩ : ∃ f2, put1 f1 99 (pt (f1 99) (bitOf c) false) = f2 := ⟨_, rfl⟩
  rw [hf2] at PU R2 hF
  have WD := Lib.hid (fun (w' : World) (A' : Da w' g f2) => word_any A' R2 (o := c * 12) 2 (by omega) (by omega))
  obtain ⟨z0, z1⟩ := wordOf_rng R2 (c * 12 + 2)
  have SE := Lib.hid (fun (w' : World) (A' : Da w' g f2) => set_any A' (o := c * 12) 8 (by omega) (by omega) (wordOf f2 (c * 12 + 2)) z0 z1)
  obtain ⟨z, hz⟩ : ∃ z, wordOf f2 (c * 12 + 2) = z := ⟨_, rfl⟩
  rw [hz] at WD SE z0 z1 hF
  have HF := Lib.hid hF
  have HB := Lib.hid hb
  have HFR := Lib.hid (show w.setCell ⟨g, 103, none⟩ (.int .u8 0) = w.setCell ⟨g, 103, none⟩ (.int .u8 0) from rfl)
  clear A R a1 e e2 e3 hf1 hf2 hz hF hb hw R1 R2 r99 HFR
  go_enter Try.func43, Try.ntmps43
  go_wp2_with fail
  go_step3
  go_wp2_with fail
  go_step3
  go_wp2_with fail
  refine (LN.out _ A1.out).mono ?_
  rintro e w2 ⟨rfl, hb2⟩
  have a2 := A1.out.kept hb2
  have c101 := keepC hb2 c101
  have A2 := Lib.hid a2
  have U2 := Lib.hid (((Upd.refl w g).set 103 (.int .u8 0)).trans (Upd.ofBelow hb2 g))
  clear a2 hb2 c102 A1 LN c103 f103
  go_wp2_with fail
  refine (PU.out _ A2.out).mono ?_
  rintro e w3 ⟨rfl, a3, u3⟩
  have A3 := Lib.hid a3
  have U3 := Lib.hid (U2.out.trans u3)
  clear a3 u3 A2 U2 PU c101
  go_wp2_with fail
  refine (WD.out _ A3.out).mono ?_
  rintro e w4 ⟨rfl, hb4⟩
  have A4 := Lib.hid (A3.out.kept hb4)
  have U4 := Lib.hid (U3.out.trans (Upd.ofBelow hb4 g))
  clear hb4 A3 U3 WD
  go_wp2_with fail
  refine (SE.out _ A4.out).mono ?_
  rintro e w5 ⟨rfl, a5, u5⟩
  have f103 := a5.frozen 103
  have c103 := a5.cell (j := 103) (by omega)
  have A5 := Lib.hid a5
  have U5 := Lib.hid (U4.out.trans u5)
  clear a5 u5 A4 U4 SE
  go_wp2_with fail
  rw [Exit.noGoto_ret]
  go_end0
  rw [HF.out]
  exact ⟨rfl, A5.out.put1 (by omega) _, U5.out.set _ _⟩
end
end Go.Proofs.Ytkeikkkcmackeaa
