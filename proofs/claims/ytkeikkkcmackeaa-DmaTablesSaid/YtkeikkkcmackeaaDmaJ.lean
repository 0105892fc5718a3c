/- The channels with tables: Frame, Line, entries. -/
import Derived.Test.YtkeikkkcmackeaaDmaI
namespace Go.Proofs.Ytkeikkkcmackeaa
open Go.RowKit
set_option linter.unusedVariables false
set_option linter.unusedSimpArgs false
set_option maxRecDepth 100000

section
variable {w : World} {g : Nat} {f : Nat → Int}
def frameF (c : Nat) (f : Nat → Int) : Nat → Int := frmF c (put1 (put1 f 101 1) 102 (bitOf c))
set_option maxHeartbeats 2000000 in
theorem frame_any (A : Da w g f) (R : Rng f) (c : Nat) (hc : c < 8) (ht : f 98 = bitOf c) :
    Calls Try.prog 18 #[.pointer (some ⟨g, 0, none⟩)] w (Wrote w g (frameF c f) (.tuple #[])) := by
  obtain ⟨b0, b1, bf, ba⟩ := bit_rng c hc
  have c98 := A.cell (j := 98) (by omega)
  rw [ht] at c98
  have c101 := A.cell (j := 101) (by omega)
  have c102 := A.cell (j := 102) (by omega)
  have f101 := A.frozen 101
  have f102 := A.frozen 102
  have a2 := (A.put1 (i := 101) (by omega) 1).put1 (i := 102) (by omega) (bitOf c)
  have R2 : Rng (put1 (put1 f 101 1) 102 (bitOf c)) := (R.put1 _ (by omega) (by omega)).put1 _ b0 b1
  have BG := Lib.hid (begin_frame a2 R2 c hc (by rw [put1_at, if_pos rfl]) (by rw [put1_ne (by decide), put1_at, if_pos rfl]))
  clear A R ht a2 R2
  go_enter Try.func18, Try.ntmps18
  go_wp2_with fail
  refine BG.out.mono ?_
  rintro e w2 ⟨rfl, a3, u3⟩
  have A3 := Lib.hid a3
  have U3 := Lib.hid ((((Upd.refl w g).set 101 (.int .u8 1)).set 102 (.int .u8 (bitOf c))).trans u3)
  clear a3 u3
  go_wp2_with fail
  go_end0
  exact ⟨rfl, A3.out, U3.out⟩

/-- A line: b: which tables go on. -/
def lineA (b : Int) (f : Nat → Int) : Nat → Int := put1 (put1 f 101 2) 102 b
set_option maxHeartbeats 2000000 in
theorem line_pre (A : Da w g f) (b : Int) (hb : bits .andNot .u8 (f 98) (f 99) = b) (hw : f 101 = 0) (f' : Nat → Int)
    (BG : ∀ w', Da w' g (lineA b f) → Calls Try.prog 43 #[.pointer (some ⟨g, 0, none⟩)] w' (Wrote w' g f' (.tuple #[]))) :
    Calls Try.prog 19 #[.pointer (some ⟨g, 0, none⟩)] w (Wrote w g f' (.tuple #[])) := by
  have c98 := A.cell (j := 98) (by omega)
  have c99 := A.cell (j := 99) (by omega)
  have c101 := A.cell (j := 101) (by omega)
  rw [hw] at c101
  have c102 := A.cell (j := 102) (by omega)
  have f101 := A.frozen 101
  have f102 := A.frozen 102
  have A2 := Lib.hid ((A.put1 (i := 101) (by omega) 2).put1 (i := 102) (by omega) b)
  have HBG := Lib.hid BG
  obtain ⟨x, hx⟩ : ∃ x, f 98 = x := ⟨_, rfl⟩
  obtain ⟨y, hy⟩ : ∃ x, f 99 = x := ⟨_, rfl⟩
  rw [hx, hy] at hb
  rw [hx] at c98
  rw [hy] at c99
  clear A hw BG hx hy
  go_enter Try.func19, Try.ntmps19
  go_upto_region 1 with (fail)
  go_cut [] from 11 to 25 (fun wx => Da wx g (lineA b f) ∧ Upd w g wx)
  case first =>
    go_region_with (fail)
    all_goals
      go_wp2_with fail
      go_meet
      exact ⟨A2.out, (((Upd.refl _ _).set _ _).set _ _).drew⟩
  case rest =>
    obtain ⟨a1, u1⟩ := hcut
    have BG1 := Lib.hid (HBG.out _ a1)
    have U1 := Lib.hid u1
    clear a1 u1 c98 c99 c101 c102 f101 f102 A2 HBG
    go_wp2_with fail
    refine BG1.out.mono ?_
    rintro e w2 ⟨rfl, a3, u3⟩
    have A3 := Lib.hid a3
    have U3 := Lib.hid (U1.out.trans u3)
    clear a3 u3
    go_wp2_with fail
    go_end0
    exact ⟨rfl, A3.out, U3.out⟩
theorem line_any (A : Da w g f) (R : Rng f) (c : Nat) (hc : c < 8) (hb : bits .andNot .u8 (f 98) (f 99) = bitOf c) (hw : f 101 = 0) :
    Calls Try.prog 19 #[.pointer (some ⟨g, 0, none⟩)] w (Wrote w g (linF c (lineA (bitOf c) f)) (.tuple #[])) := by
  obtain ⟨b0, b1, bf, ba⟩ := bit_rng c hc
  refine line_pre A (bitOf c) hb hw _ fun w' a' => begin_line a' ?_ c hc ?_ ?_
  · exact (R.put1 _ (by omega) (by omega)).put1 _ b0 b1
  · unfold lineA; rw [put1_at, if_pos rfl]
  · unfold lineA; rw [put1_ne (by decide), put1_at, if_pos rfl]
theorem line_none (A : Da w g f) (hb : bits .andNot .u8 (f 98) (f 99) = 0) (hw : f 101 = 0) :
    Calls Try.prog 19 #[.pointer (some ⟨g, 0, none⟩)] w (Wrote w g (endF (lineA 0 f)) (.tuple #[])) :=
  line_pre A 0 hb hw _ fun w' a' => begin_none a' (by unfold lineA; rw [put1_at, if_pos rfl])

/-- A byte of an entry. -/
def entA (c : Nat) (v : Int) (f : Nat → Int) : Nat → Int := put1 (put2 f (c * 12 + 8) ((wordOf f (c * 12 + 8) + 1) % 65536)) (c * 12 + 10) v
def entF (c : Nat) (v : Int) (f : Nat → Int) : Nat → Int :=
  endF (put1 (if v = 0 then put1 (entA c v f) 99 (bits .or .u8 (f 99) (bitOf c)) else put1 (entA c v f) 100 (bits .or .u8 (f 100) (bitOf c))) 102 0)
theorem entA_ne {c j : Nat} {v : Int} {f : Nat → Int} (h1 : j ≠ c * 12 + 8) (h2 : j ≠ c * 12 + 9) (h3 : j ≠ c * 12 + 10) : entA c v f j = f j := by
  unfold entA; rw [put1_ne h3, put2_ne h1 h2]
set_option maxHeartbeats 4000000 in
theorem entry_any (A : Da w g f) (R : Rng f) (c : Nat) (hc : c < 8) (hb : f 102 = bitOf c) (hs : f 103 = 8) (hm : f (c * 12) / 64 % 2 = 0) (v : Int) :
    Calls Try.prog 42 #[.pointer (some ⟨g, 0, none⟩), .int .u8 v] w (Wrote w g (entF c v f) (.tuple #[])) := by
  obtain ⟨b0, b1, bf, ba⟩ := bit_rng c hc
  have c102 := A.cell (j := 102) (by omega)
  rw [hb] at c102
  have LE := Lib.hid (fun (w' : World) (A' : Da w' g f) => least_any A' c hc (bitOf c) bf)
  have NX := Lib.hid (fun (w' : World) (A' : Da w' g f) => next_any A' R (o := c * 12) 8 (by omega) (by omega))
  have rm := R (c * 12)
  have e64 := and64 (f (c * 12)) rm.1 rm.2
  rw [hm, Int.zero_mul] at e64
  have E := fun (j : Nat) (h1 : j ≠ c * 12 + 8) (h2 : j ≠ c * 12 + 9) (h3 : j ≠ c * 12 + 10) => (entA_ne h1 h2 h3 : entA c v f j = f j)
  have hA : entA c v f = put1 (put2 f (c * 12 + 8) ((wordOf f (c * 12 + 8) + 1) % 65536)) (c * 12 + 10) v := rfl
  have e103 : (put2 f (c * 12 + 8) ((wordOf f (c * 12 + 8) + 1) % 65536)) 103 = 8 := by rw [put2_ne (by omega) (by omega)]; exact hs
  obtain ⟨f1, hf1⟩ : ∃ f1, put2 f (c * 12 + 8) ((wordOf f (c * 12 + 8) + 1) % 65536) = f1 := ⟨_, rfl⟩
  rw [hf1] at NX hA e103
  obtain ⟨fe, hfe⟩ : ∃ fe, entA c v f = fe := ⟨_, rfl⟩
  have hF : entF c v f = endF (put1 (if v = 0 then put1 fe 99 (bits .or .u8 (f 99) (bitOf c)) else put1 fe 100 (bits .or .u8 (f 100) (bitOf c))) 102 0) := by unfold entF; rw [hfe]
  rw [hfe] at hA E
  have e99 := E 99 (by omega) (by omega) (by omega)
  have e100 := E 100 (by omega) (by omega) (by omega)
  have e102 := (E 102 (by omega) (by omega) (by omega)).trans hb
  have em := E (c * 12) (by omega) (by omega) (by omega)
  have HE := Lib.hid hA
  have HF := Lib.hid hF
  have H99 := Lib.hid e99
  have H100 := Lib.hid e100
  have H102 := Lib.hid e102
  have HM := Lib.hid em
  have H103 := Lib.hid e103
  have HA := Lib.hid A
  clear A R E hA hf1 hfe hF e99 e100 e102 em e103 hb hs hm rm
  go_enter Try.func42, Try.ntmps42
  go_wp2_with fail
  refine wp_scope_once ?_
  go_wp2_with fail
  refine (LE.out _ HA.out).mono ?_
  rintro e w1 ⟨rfl, hb1⟩
  have A1 := Lib.hid (HA.out.kept hb1)
  have U1 := Lib.hid (Upd.ofBelow hb1 g)
  clear hb1 HA LE c102
  go_wp2_with fail
  refine (NX.out _ A1.out).mono ?_
  rintro e w2 ⟨rfl, a2, u2⟩
  have c103 := a2.cell (j := 103) (by omega)
  rw [H103.out] at c103
  have c10 := a2.cell (j := c * 12 + 10) (by omega)
  have f10 := a2.frozen (c * 12 + 10)
  have a3 := a2.put1 (i := c * 12 + 10) (by omega) v
  rw [← HE.out] at a3
  have k99 := a3.cell (j := 99) (by omega)
  have k100 := a3.cell (j := 100) (by omega)
  have k102 := a3.cell (j := 102) (by omega)
  have km := a3.cell (j := c * 12) (by omega)
  rw [H99.out] at k99
  rw [H100.out] at k100
  rw [H102.out] at k102
  rw [HM.out] at km
  have f99 := a3.frozen 99
  have f100 := a3.frozen 100
  have f102 := a3.frozen 102
  have A3 := Lib.hid a3
  have U3 := Lib.hid ((U1.out.trans u2).set (c * 12 + 10) (.int .u8 v))
  clear a2 u2 a3 A1 U1 NX
  by_cases hv : v = 0
  · subst hv
    obtain ⟨y, hy⟩ : ∃ y, bits .or .u8 (f 99) (bitOf c) = y := ⟨_, rfl⟩
    have hff := HF.out
    rw [if_pos rfl, hy] at hff
    have HF2 := Lib.hid hff
    have a4 := A3.out.put1 (i := 99) (by omega) y
    have k102' := a4.cell (j := 102) (by omega)
    rw [put1_ne (by decide), H102.out] at k102'
    have f102' := a4.frozen 102
    have a5 := a4.put1 (i := 102) (by omega) 0
    have A5 := Lib.hid a5
    have BG := Lib.hid (begin_none a5 (by rw [put1_at, if_pos rfl]))
    have U5 := Lib.hid ((U3.out.set 99 (.int .u8 y)).set 102 (.int .u8 0))
    clear a4 a5 hff HF
    go_wp2_with fail
    refine wp_goto ?_
    refine ⟨_, rfl, ?_⟩
    go_wp2_with fail
    try go_step3
    go_wp2_with fail
    refine BG.out.mono ?_
    rintro e w5 ⟨rfl, a6, u6⟩
    have A6 := Lib.hid a6
    have U6 := Lib.hid (U5.out.trans u6)
    clear a6 u6
    go_wp2_with fail
    rw [noGoto_normal]
    go_wp2_with fail
    go_end0
    rw [HF2.out]
    exact ⟨rfl, A6.out, U6.out⟩
  · obtain ⟨y, hy⟩ : ∃ y, bits .or .u8 (f 100) (bitOf c) = y := ⟨_, rfl⟩
    have hff := HF.out
    rw [if_neg hv, hy] at hff
    have HF2 := Lib.hid hff
    have t : (v == 0) = false := by simpa using hv
    have a4 := A3.out.put1 (i := 100) (by omega) y
    have k102' := a4.cell (j := 102) (by omega)
    rw [put1_ne (by decide), H102.out] at k102'
    have f102' := a4.frozen 102
    have a5 := a4.put1 (i := 102) (by omega) 0
    have A5 := Lib.hid a5
    have BG := Lib.hid (begin_none a5 (by rw [put1_at, if_pos rfl]))
    have U5 := Lib.hid ((U3.out.set 100 (.int .u8 y)).set 102 (.int .u8 0))
    clear a4 a5 hff HF hv
    go_wp2_with fail
    refine wp_goto ?_
    refine ⟨_, rfl, ?_⟩
    go_wp2_with fail
    try go_step3
    go_wp2_with fail
    try go_step3
    go_wp2_with fail
    refine BG.out.mono ?_
    rintro e w5 ⟨rfl, a6, u6⟩
    have A6 := Lib.hid a6
    have U6 := Lib.hid (U5.out.trans u6)
    clear a6 u6
    go_wp2_with fail
    rw [noGoto_normal]
    go_wp2_with fail
    go_end0
    rw [HF2.out]
    exact ⟨rfl, A6.out, U6.out⟩
end
end Go.Proofs.Ytkeikkkcmackeaa
