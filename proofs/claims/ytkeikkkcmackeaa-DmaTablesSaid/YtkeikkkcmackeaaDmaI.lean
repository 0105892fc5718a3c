/- The channels with tables: a line begins. -/
import Derived.Test.YtkeikkkcmackeaaDmaH
namespace Go.Proofs.Ytkeikkkcmackeaa
open Go.RowKit
set_option linter.unusedVariables false
set_option linter.unusedSimpArgs false
set_option maxRecDepth 100000

def linF (c : Nat) (f : Nat → Int) : Nat → Int :=
  if bits .and .u8 (f 100) (bitOf c) = 0 then (if (cntF c (put1 f 103 0)).1 = true then endF (cntF c (put1 f 103 0)).2 else (cntF c (put1 f 103 0)).2) else put1 f 103 0
theorem cntF_ne (c : Nat) (hc : c < 8) (f : Nat → Int) {j : Nat} (h1 : j ≠ c * 12 + 10) (h2 : j ≠ 100) (h3 : j ≠ 102) (h4 : j ≠ 103) : (cntF c f).2 j = f j := by
  unfold cntF cntC cntB cntA
  split
  · simp only []; rw [put1_ne h4, put1_ne h2, put1_ne h1]
  · simp only []; rw [put1_ne h3, put1_ne h2, put1_ne h1]
theorem cntF_102 (c : Nat) (hc : c < 8) (f : Nat → Int) (h : (cntF c f).1 = true) : (cntF c f).2 102 = bits .andNot .u8 (f 102) (bitOf c) := by
  unfold cntF cntC at *
  by_cases e : (cntB c (cntA c f)) (c * 12 + 10) % 128 = 0
  · rw [if_pos e] at h; cases h
  · rw [if_neg e]
    simp only []
    rw [put1_at, if_pos rfl]
    unfold cntB cntA
    rw [put1_ne (by decide), put1_ne (by omega)]
section
variable {w : World} {g : Nat} {f : Nat → Int}
set_option maxHeartbeats 2000000 in
theorem begin_line (A : Da w g f) (R : Rng f) (c : Nat) (hc : c < 8) (hb : f 102 = bitOf c) (hw : f 101 = 2) :
    Calls Try.prog 43 #[.pointer (some ⟨g, 0, none⟩)] w (Wrote w g (linF c f) (.tuple #[])) := by
  obtain ⟨b0, b1, bf, ba⟩ := bit_rng c hc
  have f103 := A.frozen 103
  have c103 := A.cell (j := 103) (by omega)
  have a1 := A.put1 (i := 103) (by omega) 0
  have c102 := a1.cell (j := 102) (by omega)
  have c101 := a1.cell (j := 101) (by omega)
  have e : put1 f 103 0 102 = bitOf c := by rw [put1_ne (by decide)]; exact hb
  have e2 : put1 f 103 0 101 = 2 := by rw [put1_ne (by decide)]; exact hw
  have e3 : put1 f 103 0 100 = f 100 := by rw [put1_ne (by decide)]
  have R1 : Rng (put1 f 103 0) := R.put1 _ (by omega) (by omega)
  have hL : linF c f = if bits .and .u8 (put1 f 103 0 100) (bitOf c) = 0 then (if (cntF c (put1 f 103 0)).1 = true then endF (cntF c (put1 f 103 0)).2 else (cntF c (put1 f 103 0)).2) else put1 f 103 0 := by unfold linF; rw [e3]
  obtain ⟨f1, hf1⟩ : ∃ f1, put1 f 103 0 = f1 := ⟨_, rfl⟩
  rw [hf1] at a1 e e2 R1 hL c102 c101
  rw [e] at c102
  rw [e2] at c101
  have A1 := Lib.hid a1
  have LN := Lib.hid (fun (w' : World) (A' : Da w' g f1) => least_any A' c hc (bitOf c) bf)
  have CN := Lib.hid (fun (w' : World) (A' : Da w' g f1) => counted_any A' R1 c hc)
  have h102 : (cntF c f1).1 = true → (cntF c f1).2 102 = 0 := fun h => by rw [cntF_102 c hc f1 h, e, ba]
  obtain ⟨⟨b, f2⟩, hcn⟩ : ∃ q, cntF c f1 = q := ⟨_, rfl⟩
  rw [hcn] at CN hL h102
  simp only at CN hL h102
  obtain ⟨dz, hdz⟩ : ∃ dz, bits .and .u8 (f1 100) (bitOf c) = dz := ⟨_, rfl⟩
  rw [hdz] at hL
  have HL := Lib.hid hL
  have H102 := Lib.hid h102
  have H100 : Hid (∀ w', Da w' g f1 → w'.cell? ⟨g, 100, none⟩ = some (.int .u8 (f1 100))) := fun w' a => a.cell (by omega)
  clear A R a1 e e2 e3 hf1 hL hb hw R1 h102 hcn
  go_enter Try.func43, Try.ntmps43
  go_wp2_with fail
  refine wp_scope_once ?_
  go_wp2_with fail
  go_step3
  go_wp2_with fail
  refine (LN.out _ A1.out).mono ?_
  rintro e w2 ⟨rfl, hb2⟩
  have a2 := A1.out.kept hb2
  have c101 := keepC hb2 c101
  have c100 := H100.out _ a2
  have A2 := Lib.hid a2
  have U2 := Lib.hid (((Upd.refl w g).set 103 (.int .u8 0)).trans (Upd.ofBelow hb2 g))
  clear a2 hb2 c102 A1 c103 f103 H100
  by_cases dz0 : dz = 0
  · subst dz0
    have hl := HL.out
    rw [if_pos rfl] at hl
    have HL2 := Lib.hid hl
    clear hl HL
    go_wp2_with fail
    refine (CN.out _ A2.out).mono ?_
    rintro e w3 ⟨rfl, a3, u3⟩
    have A3 := Lib.hid a3
    have U3 := Lib.hid (U2.out.trans u3)
    cases b
    · clear a3 u3 c100 c101 A2 U2 CN LN
      go_wp2_with fail
      rw [onceG_normal]
      go_wp2_with fail
      go_end0
      rw [HL2.out]
      exact ⟨rfl, A3.out, U3.out⟩
    · have h102 := H102.out rfl
      have c102 : ((w3.setCell ⟨g, 103, none⟩ (.int .u8 0))).cell? ⟨g, 102, none⟩ = some (.int .u8 0) := by
        have := (a3.put1 (i := 103) (by omega) 0).cell (j := 102) (by omega)
        rw [put1_ne (by decide), h102] at this
        exact this
      have f103 := a3.frozen 103
      have c103 := a3.cell (j := 103) (by omega)
      have a4 := a3.put1 (i := 103) (by omega) 0
      have A4 := Lib.hid a4
      have U4 := Lib.hid (U3.out.set 103 (.int .u8 0))
      have LZ := Lib.hid (fun (w' : World) (A' : Da w' g (put1 f2 103 0)) => least_none A')
      clear a3 u3 a4 c100 c101 A2 U2 CN LN h102
      go_wp2_with fail
      refine wp_goto ?_
      refine ⟨_, rfl, ?_⟩
      go_wp2_with fail
      try go_step3
      go_wp2_with fail
      refine (LZ.out _ A4.out).mono ?_
      rintro e w5 ⟨rfl, hb5⟩
      have a5 := A4.out.kept hb5
      have f101 := a5.frozen 101
      have c101 := a5.cell (j := 101) (by omega)
      have A5 := Lib.hid a5
      have U5 := Lib.hid (U4.out.trans (Upd.ofBelow hb5 g))
      clear a5 hb5 c102 f103 c103 A4 U4 LZ
      go_wp2_with fail
      rw [Exit.noGoto_ret]
      go_end0
      rw [HL2.out]
      exact ⟨rfl, A5.out.put1 (by omega) _, U5.out.set _ _⟩
  · have hl := HL.out
    rw [if_neg dz0] at hl
    have HL2 := Lib.hid hl
    have t : (dz == 0) = false := by simpa using dz0
    clear hl HL CN LN
    go_wp2_with fail
    rw [onceG_normal]
    go_wp2_with fail
    go_end0
    rw [HL2.out]
    exact ⟨rfl, A2.out, U2.out⟩
end
end Go.Proofs.Ytkeikkkcmackeaa
