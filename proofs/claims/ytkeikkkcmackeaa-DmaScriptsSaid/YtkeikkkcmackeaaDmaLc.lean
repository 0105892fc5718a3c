/- dma, the program's Done, Frame, Line, Next at every state. -/
import Derived.Test.YtkeikkkcmackeaaDmaLb
namespace Go.Proofs.Ytkeikkkcmackeaa
open Go.RowKit
set_option linter.unusedVariables false
set_option linter.unusedSimpArgs false
set_option maxRecDepth 100000
section
variable {w : World} {g : Nat} {f r : Nat → Int}
set_option maxHeartbeats 1000000 in
theorem done_u (A : Da w g f) (hs : f 103 < 8) (hw : f 101 ≠ 0) (v : Int) (MD0 : Calls Try.prog 41 #[.pointer (some ⟨g, 0, none⟩), .int .u8 v] w (Wrote w g r (.tuple #[]))) :
    Calls Try.prog 14 #[.pointer (some ⟨g, 0, none⟩), .int .u8 v] w (Wrote w g r (.tuple #[])) := by
  have c101 := A.cell (j := 101) (by omega)
  have c103 := A.cell (j := 103) (by omega)
  have t : (f 101 == 0) = false := by simpa using hw
  obtain ⟨y, hy⟩ : ∃ y, f 101 = y := ⟨_, rfl⟩
  obtain ⟨s, hs'⟩ : ∃ y, f 103 = y := ⟨_, rfl⟩
  rw [hy] at c101 t
  rw [hs'] at c103 hs
  have t2 : ¬ 8 ≤ s := by omega
  have MD := Lib.hid MD0
  clear A MD0 hw hy hs'
  clear hs
  go_enter Try.func14, Try.ntmps14
  go_wp2_with fail
  refine MD.out.mono ?_
  rintro e w2 ⟨rfl, ha, hu⟩
  have HA := Lib.hid ha
  have HU := Lib.hid hu
  clear ha hu
  go_wp2_with fail
  go_end0
  exact ⟨rfl, HA.out, HU.out⟩
set_option maxHeartbeats 1000000 in
theorem done_e (A : Da w g f) (hs : 8 ≤ f 103) (hw : f 101 ≠ 0) (v : Int) (MD0 : Calls Try.prog 42 #[.pointer (some ⟨g, 0, none⟩), .int .u8 v] w (Wrote w g r (.tuple #[]))) :
    Calls Try.prog 14 #[.pointer (some ⟨g, 0, none⟩), .int .u8 v] w (Wrote w g r (.tuple #[])) := by
  have c101 := A.cell (j := 101) (by omega)
  have c103 := A.cell (j := 103) (by omega)
  have t : (f 101 == 0) = false := by simpa using hw
  obtain ⟨y, hy⟩ : ∃ y, f 101 = y := ⟨_, rfl⟩
  obtain ⟨s, hs'⟩ : ∃ y, f 103 = y := ⟨_, rfl⟩
  rw [hy] at c101 t
  rw [hs'] at c103 hs
  skip
  have MD := Lib.hid MD0
  clear A MD0 hw hy hs'
  skip
  go_enter Try.func14, Try.ntmps14
  go_wp2_with fail
  refine MD.out.mono ?_
  rintro e w2 ⟨rfl, ha, hu⟩
  have HA := Lib.hid ha
  have HU := Lib.hid hu
  clear ha hu
  go_wp2_with fail
  go_end0
  exact ⟨rfl, HA.out, HU.out⟩
/-- A byte of a table is carried out. -/
theorem done_tab (A : Da w g f) (I : Inv f) (hw : f 101 ≠ 0) (v : Int) (v0 : 0 ≤ v) (v1 : v ≤ 255) (HB1 : (stF v f).1 = true → Beg r (stF v f).2) (HB0 : (stF v f).1 = false → r = (stF v f).2) :
    Calls Try.prog 14 #[.pointer (some ⟨g, 0, none⟩), .int .u8 v] w (Wrote w g r (.tuple #[])) := by
  have W := I.wt hw
  obtain ⟨c, hcc⟩ : ∃ c, lowC (f 102) = c := ⟨_, rfl⟩
  unfold stF at HB1 HB0
  rw [hcc] at W HB1 HB0
  by_cases hs : f 103 < 8
  · rw [if_pos hs] at HB1 HB0
    exact done_u A hs hw v (unit_gen A I.r c W.hc W.fst hs v HB1 HB0)
  · rw [if_neg hs] at HB1 HB0
    refine done_e A (by omega) hw v ?_
    unfold enF at HB1 HB0
    by_cases h8 : f 103 = 8
    · rw [if_pos h8] at HB1 HB0
      by_cases hv : v = 0
      · rw [if_pos hv] at HB1 HB0
        subst hv
        exact entry_zero A I.r c W.hc W.fst h8 (HB1 rfl)
      · rw [if_neg hv] at HB1 HB0
        by_cases hd : indB f c = true
        · rw [if_pos hd] at HB1 HB0
          exact entry_ind A I.r c W.hc W.fst v v0 v1 h8 hv hd (HB0 rfl)
        · rw [if_neg hd] at HB1 HB0
          exact entry_dir A I.r c W.hc W.fst v v0 v1 h8 hv (by simpa using hd) (HB1 rfl)
    · rw [if_neg h8] at HB1 HB0
      by_cases h9 : f 103 = 9
      · rw [if_pos h9] at HB1 HB0
        exact entry_nine A I.r c W.hc W.fst v v0 v1 h9 (HB0 rfl)
      · rw [if_neg h9] at HB1 HB0
        exact entry_ten A I.r c W.hc W.fst v v0 v1 (by have := W.s10; omega) (HB1 rfl)
def frmA (f : Nat → Int) : Nat → Int := put1 (put1 f 101 1) 102 (f 98)
set_option maxHeartbeats 2000000 in
theorem frame_gen (A : Da w g f) (R : Rng f) (H : Beg r (frmA f)) :
    Calls Try.prog 18 #[.pointer (some ⟨g, 0, none⟩)] w (Wrote w g r (.tuple #[])) := by
  have c98 := A.cell (j := 98) (by omega)
  have c101 := A.cell (j := 101) (by omega)
  have c102 := A.cell (j := 102) (by omega)
  have f101 := A.frozen 101
  have f102 := A.frozen 102
  have a2 := (A.put1 (i := 101) (by omega) 1).put1 (i := 102) (by omega) (f 98)
  have R2 : Rng (frmA f) := (R.put1 _ (by omega) (by omega)).put1 _ (R 98).1 (R 98).2
  have BG := Lib.hid (begin_gen a2 R2 H)
  obtain ⟨x, hx⟩ : ∃ x, f 98 = x := ⟨_, rfl⟩
  rw [hx] at c98 BG
  clear A R a2 R2 H hx
  go_enter Try.func18, Try.ntmps18
  go_wp2_with fail
  refine BG.out.mono ?_
  rintro e w2 ⟨rfl, a3, u3⟩
  have A3 := Lib.hid a3
  have U3 := Lib.hid ((((Upd.refl w g).set 101 (.int .u8 1)).set 102 (.int .u8 x)).trans u3)
  clear a3 u3
  go_wp2_with fail
  go_end0
  exact ⟨rfl, A3.out, U3.out⟩
theorem line_gen (A : Da w g f) (R : Rng f) (hw : f 101 = 0) (H : Beg r (lineA (bits .andNot .u8 (f 98) (f 99)) f)) :
    Calls Try.prog 19 #[.pointer (some ⟨g, 0, none⟩)] w (Wrote w g r (.tuple #[])) := by
  have h := u8_andNot_rng (f 98) (f 99) (R 98).1 (R 98).2 (R 99).1 (R 99).2
  exact line_pre A _ rfl hw _ fun w' a' => begin_gen a' ((R.put1 _ (by omega) (by omega)).put1 _ h.1 h.2) H
set_option maxHeartbeats 2000000 in
theorem line_busy (A : Da w g f) (hw : f 101 ≠ 0) :
    Calls Try.prog 19 #[.pointer (some ⟨g, 0, none⟩)] w (Wrote w g f (.tuple #[])) := by
  have c101 := A.cell (j := 101) (by omega)
  have t : (f 101 == 0) = false := by simpa using hw
  obtain ⟨y, hy⟩ : ∃ y, f 101 = y := ⟨_, rfl⟩
  rw [hy] at c101 t
  have HA := Lib.hid A
  clear A hw hy
  go_enter Try.func19, Try.ntmps19
  go_wp2_with fail
  go_end0
  exact ⟨rfl, HA.out, Upd.refl _ _⟩
/-- What a table asks for next, whether its bytes lie elsewhere or not. -/
def tbT (c : Nat) (f : Nat → Int) : Int × Int × Int :=
  if 8 ≤ f 103 then (1, liesOf f (c * 12 + 4) (c * 12 + 8), 0) else (kindOf (f (c * 12)), (if indB f c then liesOf f (c * 12 + 7) (c * 12 + 5) else liesOf f (c * 12 + 4) (c * 12 + 8)), (f (c * 12 + 1) + patOf (f (c * 12)) (f 103)) % 256)
set_option maxHeartbeats 2000000 in
theorem tbNext_dir (A : Da w g f) (R : Rng f) (c : Nat) (hc : c < 8) (hb : First (f 102) c) (hd : indB f c = false) :
    Calls Try.prog 36 #[.pointer (some ⟨g, 0, none⟩)] w (Says w (trV (tbT c f).1 (tbT c f).2.1 (tbT c f).2.2)) := by
  have c102 := A.cell (j := 102) (by omega)
  have c103 := A.cell (j := 103) (by omega)
  have cm := A.cell (j := c * 12) (by omega)
  have r103 := R 103
  have rm := R (c * 12)
  have e64 := and64 (f (c * 12)) rm.1 rm.2
  have hm : f (c * 12) / 64 % 2 = 0 := by
    have e : bitN (f (c * 12)) 6 = f (c * 12) / 64 % 2 := by unfold bitN; simp
    unfold indB at hd
    rw [← e]
    have := bitN_01 (f (c * 12)) 6
    simp at hd
    omega
  rw [hm] at e64
  simp only [Int.zero_mul, Int.one_mul] at e64
  have hlt := A.lt
  have LE := Lib.hid (fun (w' : World) (A' : Da w' g f) => least_any A' c hc (f 102) hb)
  have LI := Lib.hid (fun (w' : World) (A' : Da w' g f) => lies_any (o := c * 12) A' R 4 8 (by omega) (by omega) (by omega))
  have LJ := Lib.hid (fun (w' : World) (A' : Da w' g f) => lies_any (o := c * 12) A' R 4 8 (by omega) (by omega) (by omega))
  have ht : tbT c f = if 8 ≤ f 103 then (1, liesOf f (c * 12 + 4) (c * 12 + 8), 0) else (kindOf (f (c * 12)), liesOf f (c * 12 + 4) (c * 12 + 8), (f (c * 12 + 1) + patOf (f (c * 12)) (f 103)) % 256) := by unfold tbT; rw [hd]; rfl
  obtain ⟨a0, ha0⟩ : ∃ a, liesOf f (c * 12 + 4) (c * 12 + 8) = a := ⟨_, rfl⟩
  rw [ha0] at LI ht
  try rw [ha0] at LJ
  obtain ⟨a, ha⟩ : ∃ a, a0 = a := ⟨_, rfl⟩
  have MO := Lib.hid (fun (w' : World) (A' : Da w' g f) => moving_any (o := c * 12) A' R a (f 103) r103.1 r103.2 (by omega))
  try rw [ha] at LI
  rw [ha] at LJ
  rw [ha] at ht
  obtain ⟨k, hk⟩ : ∃ k, kindOf (f (c * 12)) = k := ⟨_, rfl⟩
  obtain ⟨b, hbb⟩ : ∃ b, (f (c * 12 + 1) + patOf (f (c * 12)) (f 103)) % 256 = b := ⟨_, rfl⟩
  rw [hk, hbb] at MO ht
  obtain ⟨m, hmm⟩ : ∃ m, f 103 = m := ⟨_, rfl⟩
  rw [hmm] at MO c103 ht
  have HA := Lib.hid A
  have HT := Lib.hid ht
  obtain ⟨x2, hx2⟩ : ∃ x, f 102 = x := ⟨_, rfl⟩
  rw [hx2] at c102 LE
  clear A R hb hm hd r103 rm ha ha0 hk hbb hmm ht hx2
  go_enter Try.func36, Try.ntmps36
  go_wp2_with fail
  obtain ⟨W1, hW⟩ : ∃ W1, W1 = w.alloc (.cells #[.int .u8 0, .int .u32 0, .int .u8 0] 30) := ⟨_, rfl⟩
  obtain ⟨B, hB⟩ : ∃ B, B = w.heap.size := ⟨_, rfl⟩
  have BT : Hid (Blk W1 B 30 #[.int .u8 0, .int .u32 0, .int .u8 0]) := by rw [hW, hB]; exact Blk.new _ _ _
  have HB1 : Hid (Below w.heap.size w W1) := by rw [hW]; exact belowA (Below.refl _ _) _
  have hBw : Hid (w.heap.size ≤ B) := by rw [hB]; exact Nat.le_refl _
  rw [← hW, ← hB]
  have gB : g ≠ B := by omega
  clear hW hB
  refine (LE.out _ (HA.out.kept HB1.out)).mono ?_
  rintro e w2 ⟨rfl, hb2⟩
  have p103 := keepC (HB1.out.trans (hb2.mono HB1.out.size)) c103
  have pm := keepC (HB1.out.trans (hb2.mono HB1.out.size)) cm
  have HB2 := Lib.hid (HB1.out.trans (hb2.mono HB1.out.size))
  have BT2 := Lib.hid (BT.out.kept hb2)
  clear hb2 c102 c103 cm HB1 BT LE
  by_cases hs : 8 ≤ m
  · have ht := HT.out
    rw [if_pos hs] at ht
    have HT2 := Lib.hid ht
    clear ht HT MO
    go_wp2_with fail
    refine (LI.out _ (HA.out.kept HB2.out)).mono ?_
    rintro e w3 ⟨rfl, hb3⟩
    have bt := BT2.out.kept hb3
    have z0 := bt.cell 0
    have z1 := bt.cell 1
    have z2 := bt.cell 2
    have f0 := bt.frozen 0
    have f1 := bt.frozen 1
    have f2 := bt.frozen 2
    have HB3 := Lib.hid (HB2.out.trans (hb3.mono HB2.out.size))
    clear bt hb3
    go_wp2_with fail
    refine bodyPost_ret (v := trV 1 a 0) (by simp [results, Try.results36, go_sem, z0, z1, z2]) rfl ?_
    rw [HT2.out]
    exact ⟨rfl, belowS (belowS (belowS HB3.out hBw.out _) hBw.out _) hBw.out _⟩
  · have ht := HT.out
    rw [if_neg hs] at ht
    have HT2 := Lib.hid ht
    clear ht HT
    have p103 : w2.drew.cell? ⟨g, 103, none⟩ = some (.int .u8 m) := p103
    go_upto_region 6 with (fail)
    go_region_held3 (fun w' => w'.cell? ⟨g, 103, none⟩ = some (.int .u8 m))
      (first | (with_reducible exact p103) | (with_reducible exact q97) | (with_reducible exact r97) | (with_reducible exact keepSet (keepSet (keepSet r97 gB) gB) gB))
      (first
        | (go_at_call 39; refine (LJ.out _ (HA.out.kept (HB2.out.drew))).mono ?_; rintro e w3 ⟨rfl, hb3⟩; have q97 := keepC hb3 p103; have HB3 := Lib.hid (HB2.out.drew.trans (hb3.mono HB2.out.size)); have BT3 := Lib.hid (BT2.out.drew.kept hb3); clear hb3)
        | (go_at_call 38; refine (MO.out _ (HA.out.kept HB3.out)).mono ?_; rintro e w4 ⟨rfl, hb4⟩; have HB4 := Lib.hid (HB3.out.trans (hb4.mono HB3.out.size)); have bt4 := BT3.out.kept hb4; have z0 := bt4.cell 0; have z1 := bt4.cell 1; have z2 := bt4.cell 2; have f0 := bt4.frozen 0; have f1 := bt4.frozen 1; have f2 := bt4.frozen 2; have r97 := keepC hb4 q97; have BT4 := Lib.hid bt4; clear hb4 bt4))
    all_goals
      go_wp2_with fail
      refine bodyPost_ret (v := trV k a b) (by simp [results, Try.results36, go_sem, z0, z1, z2]) rfl ?_
      rw [HT2.out]
      exact ⟨rfl, belowS (belowS (belowS HB4.out hBw.out _) hBw.out _) hBw.out _⟩
set_option maxHeartbeats 2000000 in
theorem tbNext_ind (A : Da w g f) (R : Rng f) (c : Nat) (hc : c < 8) (hb : First (f 102) c) (hd : indB f c = true) :
    Calls Try.prog 36 #[.pointer (some ⟨g, 0, none⟩)] w (Says w (trV (tbT c f).1 (tbT c f).2.1 (tbT c f).2.2)) := by
  have c102 := A.cell (j := 102) (by omega)
  have c103 := A.cell (j := 103) (by omega)
  have cm := A.cell (j := c * 12) (by omega)
  have r103 := R 103
  have rm := R (c * 12)
  have e64 := and64 (f (c * 12)) rm.1 rm.2
  have hm : f (c * 12) / 64 % 2 = 1 := by
    have e : bitN (f (c * 12)) 6 = f (c * 12) / 64 % 2 := by unfold bitN; simp
    unfold indB at hd
    rw [← e]
    have := bitN_01 (f (c * 12)) 6
    simp at hd
    omega
  rw [hm] at e64
  simp only [Int.zero_mul, Int.one_mul] at e64
  have hlt := A.lt
  have LE := Lib.hid (fun (w' : World) (A' : Da w' g f) => least_any A' c hc (f 102) hb)
  have LI := Lib.hid (fun (w' : World) (A' : Da w' g f) => lies_any (o := c * 12) A' R 4 8 (by omega) (by omega) (by omega))
  have LJ := Lib.hid (fun (w' : World) (A' : Da w' g f) => lies_any (o := c * 12) A' R 7 5 (by omega) (by omega) (by omega))
  have ht : tbT c f = if 8 ≤ f 103 then (1, liesOf f (c * 12 + 4) (c * 12 + 8), 0) else (kindOf (f (c * 12)), liesOf f (c * 12 + 7) (c * 12 + 5), (f (c * 12 + 1) + patOf (f (c * 12)) (f 103)) % 256) := by unfold tbT; rw [hd]; rfl
  obtain ⟨a0, ha0⟩ : ∃ a, liesOf f (c * 12 + 4) (c * 12 + 8) = a := ⟨_, rfl⟩
  rw [ha0] at LI ht
  try rw [ha0] at LJ
  obtain ⟨a, ha⟩ : ∃ a, liesOf f (c * 12 + 7) (c * 12 + 5) = a := ⟨_, rfl⟩
  have MO := Lib.hid (fun (w' : World) (A' : Da w' g f) => moving_any (o := c * 12) A' R a (f 103) r103.1 r103.2 (by omega))
  rw [ha] at LJ ht
  obtain ⟨k, hk⟩ : ∃ k, kindOf (f (c * 12)) = k := ⟨_, rfl⟩
  obtain ⟨b, hbb⟩ : ∃ b, (f (c * 12 + 1) + patOf (f (c * 12)) (f 103)) % 256 = b := ⟨_, rfl⟩
  rw [hk, hbb] at MO ht
  obtain ⟨m, hmm⟩ : ∃ m, f 103 = m := ⟨_, rfl⟩
  rw [hmm] at MO c103 ht
  have HA := Lib.hid A
  have HT := Lib.hid ht
  obtain ⟨x2, hx2⟩ : ∃ x, f 102 = x := ⟨_, rfl⟩
  rw [hx2] at c102 LE
  clear A R hb hm hd r103 rm ha ha0 hk hbb hmm ht hx2
  go_enter Try.func36, Try.ntmps36
  go_wp2_with fail
  obtain ⟨W1, hW⟩ : ∃ W1, W1 = w.alloc (.cells #[.int .u8 0, .int .u32 0, .int .u8 0] 30) := ⟨_, rfl⟩
  obtain ⟨B, hB⟩ : ∃ B, B = w.heap.size := ⟨_, rfl⟩
  have BT : Hid (Blk W1 B 30 #[.int .u8 0, .int .u32 0, .int .u8 0]) := by rw [hW, hB]; exact Blk.new _ _ _
  have HB1 : Hid (Below w.heap.size w W1) := by rw [hW]; exact belowA (Below.refl _ _) _
  have hBw : Hid (w.heap.size ≤ B) := by rw [hB]; exact Nat.le_refl _
  rw [← hW, ← hB]
  have gB : g ≠ B := by omega
  clear hW hB
  refine (LE.out _ (HA.out.kept HB1.out)).mono ?_
  rintro e w2 ⟨rfl, hb2⟩
  have p103 := keepC (HB1.out.trans (hb2.mono HB1.out.size)) c103
  have pm := keepC (HB1.out.trans (hb2.mono HB1.out.size)) cm
  have HB2 := Lib.hid (HB1.out.trans (hb2.mono HB1.out.size))
  have BT2 := Lib.hid (BT.out.kept hb2)
  clear hb2 c102 c103 cm HB1 BT LE
  by_cases hs : 8 ≤ m
  · have ht := HT.out
    rw [if_pos hs] at ht
    have HT2 := Lib.hid ht
    clear ht HT MO
    go_wp2_with fail
    refine (LI.out _ (HA.out.kept HB2.out)).mono ?_
    rintro e w3 ⟨rfl, hb3⟩
    have bt := BT2.out.kept hb3
    have z0 := bt.cell 0
    have z1 := bt.cell 1
    have z2 := bt.cell 2
    have f0 := bt.frozen 0
    have f1 := bt.frozen 1
    have f2 := bt.frozen 2
    have HB3 := Lib.hid (HB2.out.trans (hb3.mono HB2.out.size))
    clear bt hb3
    go_wp2_with fail
    refine bodyPost_ret (v := trV 1 a0 0) (by simp [results, Try.results36, go_sem, z0, z1, z2]) rfl ?_
    rw [HT2.out]
    exact ⟨rfl, belowS (belowS (belowS HB3.out hBw.out _) hBw.out _) hBw.out _⟩
  · have ht := HT.out
    rw [if_neg hs] at ht
    have HT2 := Lib.hid ht
    clear ht HT
    have p103 : w2.drew.cell? ⟨g, 103, none⟩ = some (.int .u8 m) := p103
    go_upto_region 5 with (fail)
    go_region_held3 (fun w' => w'.cell? ⟨g, 103, none⟩ = some (.int .u8 m))
      (first | (with_reducible exact p103) | (with_reducible exact q97) | (with_reducible exact r97) | (with_reducible exact keepSet (keepSet (keepSet r97 gB) gB) gB))
      (first
        | (go_at_call 39; refine (LJ.out _ (HA.out.kept (HB2.out.drew))).mono ?_; rintro e w3 ⟨rfl, hb3⟩; have q97 := keepC hb3 p103; have HB3 := Lib.hid (HB2.out.drew.trans (hb3.mono HB2.out.size)); have BT3 := Lib.hid (BT2.out.drew.kept hb3); clear hb3)
        | (go_at_call 38; refine (MO.out _ (HA.out.kept HB3.out)).mono ?_; rintro e w4 ⟨rfl, hb4⟩; have HB4 := Lib.hid (HB3.out.trans (hb4.mono HB3.out.size)); have bt4 := BT3.out.kept hb4; have z0 := bt4.cell 0; have z1 := bt4.cell 1; have z2 := bt4.cell 2; have f0 := bt4.frozen 0; have f1 := bt4.frozen 1; have f2 := bt4.frozen 2; have r97 := keepC hb4 q97; have BT4 := Lib.hid bt4; clear hb4 bt4))
    all_goals
      go_wp2_with fail
      refine bodyPost_ret (v := trV k a b) (by simp [results, Try.results36, go_sem, z0, z1, z2]) rfl ?_
      rw [HT2.out]
      exact ⟨rfl, belowS (belowS (belowS HB4.out hBw.out _) hBw.out _) hBw.out _⟩
theorem tbNext_gen (A : Da w g f) (R : Rng f) (c : Nat) (hc : c < 8) (hb : First (f 102) c) :
    Calls Try.prog 36 #[.pointer (some ⟨g, 0, none⟩)] w (Says w (trV (tbT c f).1 (tbT c f).2.1 (tbT c f).2.2)) := by
  cases hd : indB f c
  · exact tbNext_dir A R c hc hb hd
  · exact tbNext_ind A R c hc hb hd
set_option maxHeartbeats 1000000 in
theorem next_tb (A : Da w g f) (R : Rng f) (c : Nat) (hc : c < 8) (hb : First (f 102) c) (hw : f 101 ≠ 0) :
    Calls Try.prog 11 #[.pointer (some ⟨g, 0, none⟩)] w (Says w (.tuple #[trV (tbT c f).1 (tbT c f).2.1 (tbT c f).2.2, .bool true])) := by
  have c101 := A.cell (j := 101) (by omega)
  have t : (f 101 != 0) = true := by simpa using hw
  have hlt := A.lt
  have TN := Lib.hid (fun (w' : World) (A' : Da w' g f) => tbNext_gen A' R c hc hb)
  obtain ⟨⟨k, a, b⟩, hk⟩ : ∃ q, tbT c f = q := ⟨_, rfl⟩
  rw [hk] at TN ⊢
  simp only at TN ⊢
  obtain ⟨y, hy⟩ : ∃ y, f 101 = y := ⟨_, rfl⟩
  rw [hy] at c101 t
  have HA := Lib.hid A
  clear A R hb hw hk hy
  go_enter Try.func11, Try.ntmps11
  go_wp2_with fail
  obtain ⟨W1, hW⟩ : ∃ W1, W1 = w.alloc (.cells #[.int .u8 0, .int .u32 0, .int .u8 0] 30) := ⟨_, rfl⟩
  obtain ⟨B, hB⟩ : ∃ B, B = w.heap.size := ⟨_, rfl⟩
  have BT : Hid (Blk W1 B 30 #[.int .u8 0, .int .u32 0, .int .u8 0]) := by rw [hW, hB]; exact Blk.new _ _ _
  have HB1 : Hid (Below w.heap.size w W1) := by rw [hW]; exact belowA (Below.refl _ _) _
  have hBw : Hid (w.heap.size ≤ B) := by rw [hB]; exact Nat.le_refl _
  rw [← hW, ← hB]
  clear hW hB
  refine (TN.out _ (HA.out.kept HB1.out)).mono ?_
  rintro e w2 ⟨rfl, hb2⟩
  have HB2 := Lib.hid (HB1.out.trans (hb2.mono HB1.out.size))
  have bt2 := BT.out.kept hb2
  have z0 := bt2.cell 0
  have z1 := bt2.cell 1
  have z2 := bt2.cell 2
  have f0 := bt2.frozen 0
  have f1 := bt2.frozen 1
  have f2 := bt2.frozen 2
  clear hb2 c101 HB1 BT TN bt2
  go_wp2_with fail
  exact bodyPost_ret (v := .tuple #[trV k a b, .bool true]) (by simp [results, Try.results11, go_sem, z0, z1, z2]) rfl ⟨rfl, belowS (belowS (belowS HB2.out hBw.out _) hBw.out _) hBw.out _⟩
/-- What is next. -/
def nxG (f : Nat → Int) : (Int × Int × Int) × Bool :=
  if f 101 ≠ 0 then (tbT (lowC (f 102)) f, true) else if f 96 = 0 then ((0, 0, 0), false)
  else ((kindOf (f (lowC (f 96) * 12)), liesOf f (lowC (f 96) * 12 + 4) (lowC (f 96) * 12 + 2), (f (lowC (f 96) * 12 + 1) + patOf (f (lowC (f 96) * 12)) (f 97)) % 256), true)
abbrev nxGV (f : Nat → Int) : Value := .tuple #[trV (nxG f).1.1 (nxG f).1.2.1 (nxG f).1.2.2, .bool (nxG f).2]
theorem next_gen (A : Da w g f) (I : Inv f) : Calls Try.prog 11 #[.pointer (some ⟨g, 0, none⟩)] w (Says w (nxGV f)) := by
  unfold nxGV nxG
  by_cases hw : f 101 ≠ 0
  · rw [if_pos hw]
    have W := I.wt hw
    exact next_tb A I.r _ W.hc W.fst hw
  · rw [if_neg hw]
    have hw' : f 101 = 0 := by omega
    by_cases h0 : f 96 = 0
    · rw [if_pos h0]
      exact next_none A h0 hw'
    · rw [if_neg h0]
      have r6 := I.r 96
      obtain ⟨hc, hf⟩ := low_first (x := f 96) (by omega) r6.2
      exact next_move A I.r _ hc hf hw'
end
end Go.Proofs.Ytkeikkkcmackeaa
