/- The channels with tables: what is next, what is done. -/
import Derived.Test.YtkeikkkcmackeaaDmaJ
namespace Go.Proofs.Ytkeikkkcmackeaa
open Go.RowKit
set_option linter.unusedVariables false
set_option linter.unusedSimpArgs false
set_option maxRecDepth 100000

def lens : ByteArray := ⟨#[49, 50, 50, 52, 52, 52, 50, 52]⟩
def lenB (i : Int) : Int := ((lens[i.toNat]?).getD 0).toNat
@[go_sem high] theorem fold_lens : (⟨#[49, 50, 50, 52, 52, 52, 50, 52]⟩ : ByteArray) = lens := rfl
theorem lens_size : lens.size = 8 := by decide +kernel
@[go_sem high] theorem run_index_lens {P : Program} (w : World) (t : TypeId) (k : IntKind) (i : Int) (h : P.underlying t = some .string) (h0 : 0 ≤ i) (h1 : i ≤ 7) :
    (Instr.index t (.string lens) (.int k i)).run P w = .ok (.int .u8 (lenB i)) w := by
  have hi : 0 ≤ i ∧ i < (lens.size : Int) := by rw [lens_size]; omega
  have h2 : i.toNat < lens.size := by rw [lens_size]; omega
  rw [run_index_string w t lens k i h, dif_pos hi]
  simp only [lenB, ByteArray.getElem?_lt' _ _ h2, Option.getD_some]
theorem lenB_is (m : Int) (m0 : 0 ≤ m) (m1 : m ≤ 7) : lenB m = 48 + lenOf m := by
  have h : ∀ a : Fin 8, lenB (a.val : Int) = 48 + lenOf a.val := by decide +kernel
  have := h ⟨m.toNat, by omega⟩
  simp only [] at this
  rwa [Int.toNat_of_nonneg m0] at this
theorem lenOf_mod (m : Int) : lenOf (m % 8) = lenOf m := by
  unfold lenOf; rw [Int.emod_emod_of_dvd m (by decide : (8:Int) ∣ 8)]
theorem lenOf_rng (m : Int) : 1 ≤ lenOf m ∧ lenOf m ≤ 4 := by unfold lenOf; split <;> (try split) <;> omega

section
variable {w : World} {g o : Nat} {f : Nat → Int}
set_option maxHeartbeats 1000000 in
theorem length_any (A : Da w g f) (R : Rng f) (ho : o + 12 ≤ 104) :
    Calls Try.prog 71 #[chP g o] w (fun e w' => e = .returned (.int .u8 (lenOf (f o))) ∧ w' = w) := by
  have c0 := A.cell (j := o) (by omega)
  have r0 := R o
  obtain ⟨m, hm⟩ : ∃ z, f o = z := ⟨_, rfl⟩
  rw [hm] at c0 r0 ⊢
  obtain ⟨m0, m1⟩ := r0
  have e1 := and7 m m0 m1
  have e2 := lenB_is (m % 8) (by omega) (by omega)
  rw [lenOf_mod] at e2
  have pr := lenOf_rng m
  obtain ⟨p, hp⟩ : ∃ p, lenOf m = p := ⟨_, rfl⟩
  rw [hp] at e2 pr ⊢
  obtain ⟨p0, p1⟩ := pr
  have j0 : 0 ≤ m % 8 := by omega
  have j1 : m % 8 ≤ 7 := by omega
  have e3 : 48 + p - 48 = p := by omega
  clear A R hm hp
  go_enter Try.func71, Try.ntmps71
  go_wp2_with fail
  go_ret
  exact ⟨by simp [e3], rfl⟩

/-- What a table asks for next. -/
def tabT (c : Nat) (f : Nat → Int) : Int × Int × Int :=
  if 8 ≤ f 103 then (1, liesOf f (c * 12 + 4) (c * 12 + 8), 0) else (kindOf (f (c * 12)), liesOf f (c * 12 + 4) (c * 12 + 8), (f (c * 12 + 1) + patOf (f (c * 12)) (f 103)) % 256)
set_option maxHeartbeats 2000000 in
theorem tableNext_any (A : Da w g f) (R : Rng f) (c : Nat) (hc : c < 8) (hb : f 102 = bitOf c) (hm : f (c * 12) / 64 % 2 = 0) :
    Calls Try.prog 36 #[.pointer (some ⟨g, 0, none⟩)] w (Says w (trV (tabT c f).1 (tabT c f).2.1 (tabT c f).2.2)) := by
  obtain ⟨b0, b1, bf, ba⟩ := bit_rng c hc
  have c102 := A.cell (j := 102) (by omega)
  rw [hb] at c102
  have c103 := A.cell (j := 103) (by omega)
  have cm := A.cell (j := c * 12) (by omega)
  have r103 := R 103
  have rm := R (c * 12)
  have e64 := and64 (f (c * 12)) rm.1 rm.2
  rw [hm, Int.zero_mul] at e64
  have hlt := A.lt
  have LE := Lib.hid (fun (w' : World) (A' : Da w' g f) => least_any A' c hc (bitOf c) bf)
  have LI := Lib.hid (fun (w' : World) (A' : Da w' g f) => lies_any (o := c * 12) A' R 4 8 (by omega) (by omega) (by omega))
  have ht : tabT c f = if 8 ≤ f 103 then (1, liesOf f (c * 12 + 4) (c * 12 + 8), 0) else (kindOf (f (c * 12)), liesOf f (c * 12 + 4) (c * 12 + 8), (f (c * 12 + 1) + patOf (f (c * 12)) (f 103)) % 256) := rfl
  obtain ⟨a, ha⟩ : ∃ a, liesOf f (c * 12 + 4) (c * 12 + 8) = a := ⟨_, rfl⟩
  have MO := Lib.hid (fun (w' : World) (A' : Da w' g f) => moving_any (o := c * 12) A' R a (f 103) r103.1 r103.2 (by omega))
  rw [ha] at LI ht
  obtain ⟨k, hk⟩ : ∃ k, kindOf (f (c * 12)) = k := ⟨_, rfl⟩
  obtain ⟨b, hbb⟩ : ∃ b, (f (c * 12 + 1) + patOf (f (c * 12)) (f 103)) % 256 = b := ⟨_, rfl⟩
  rw [hk, hbb] at MO ht
  obtain ⟨m, hmm⟩ : ∃ m, f 103 = m := ⟨_, rfl⟩
  rw [hmm] at MO c103 ht
  have HA := Lib.hid A
  have HT := Lib.hid ht
  clear A R hb hm r103 rm ha hk hbb hmm ht
  go_enter Try.func36, Try.ntmps36
  go_wp2_with fail
  obtain ⟨W1, hW⟩ : ∃ W1, W1 = w.alloc (.cells #[.int .u8 0, .int .u32 0, .int .u8 0] 30) := ⟨_, rfl⟩
  obtain ⟨B, hB⟩ : ∃ B, B = w.heap.size := ⟨_, rfl⟩
  have BT : Hid (Blk W1 B 30 #[.int .u8 0, .int .u32 0, .int .u8 0]) := by rw [hW, hB]; exact Blk.new _ _ _
  have HB1 : Hid (Below w.heap.size w W1) := by rw [hW]; exact belowA (Below.refl _ _) _
  have hBw : Hid (w.heap.size ≤ B) := by rw [hB]; exact Nat.le_refl _
  rw [← hW, ← hB]
  have gB : g ≠ B := by omega
  clear hW hB
  refine (LE.out _ (HA.out.kept HB1.out)).mono ?_
  rintro e w2 ⟨rfl, hb2⟩
  have p103 := keepC (HB1.out.trans (hb2.mono HB1.out.size)) c103
  have pm := keepC (HB1.out.trans (hb2.mono HB1.out.size)) cm
  have HB2 := Lib.hid (HB1.out.trans (hb2.mono HB1.out.size))
  have BT2 := Lib.hid (BT.out.kept hb2)
  clear hb2 c102 c103 cm HB1 BT LE
  by_cases hs : 8 ≤ m
  · have ht := HT.out
    rw [if_pos hs] at ht
    have HT2 := Lib.hid ht
    clear ht HT MO
    go_wp2_with fail
    refine (LI.out _ (HA.out.kept HB2.out)).mono ?_
    rintro e w3 ⟨rfl, hb3⟩
    have bt := BT2.out.kept hb3
    have z0 := bt.cell 0
    have z1 := bt.cell 1
    have z2 := bt.cell 2
    have f0 := bt.frozen 0
    have f1 := bt.frozen 1
    have f2 := bt.frozen 2
    have HB3 := Lib.hid (HB2.out.trans (hb3.mono HB2.out.size))
    clear bt hb3
    go_wp2_with fail
    refine bodyPost_ret (v := trV 1 a 0) (by simp [results, Try.results36, go_sem, z0, z1, z2]) rfl ?_
    rw [HT2.out]
    exact ⟨rfl, belowS (belowS (belowS HB3.out hBw.out _) hBw.out _) hBw.out _⟩
  · have ht := HT.out
    rw [if_neg hs] at ht
    have HT2 := Lib.hid ht
    clear ht HT
    have p103 : w2.drew.cell? ⟨g, 103, none⟩ = some (.int .u8 m) := p103
    go_upto_region 6 with (fail)
    go_region_held3 (fun w' => w'.cell? ⟨g, 103, none⟩ = some (.int .u8 m))
      (first | (with_reducible exact p103) | (with_reducible exact q97) | (with_reducible exact r97) | (with_reducible exact keepSet (keepSet (keepSet r97 gB) gB) gB))
      (first
        | (go_at_call 39; refine (LI.out _ (HA.out.kept (HB2.out.drew))).mono ?_; rintro e w3 ⟨rfl, hb3⟩; have q97 := keepC hb3 p103; have HB3 := Lib.hid (HB2.out.drew.trans (hb3.mono HB2.out.size)); have BT3 := Lib.hid (BT2.out.drew.kept hb3); clear hb3)
        | (go_at_call 38; refine (MO.out _ (HA.out.kept HB3.out)).mono ?_; rintro e w4 ⟨rfl, hb4⟩; have HB4 := Lib.hid (HB3.out.trans (hb4.mono HB3.out.size)); have bt4 := BT3.out.kept hb4; have z0 := bt4.cell 0; have z1 := bt4.cell 1; have z2 := bt4.cell 2; have f0 := bt4.frozen 0; have f1 := bt4.frozen 1; have f2 := bt4.frozen 2; have r97 := keepC hb4 q97; have BT4 := Lib.hid bt4; clear hb4 bt4))
    all_goals
      go_wp2_with fail
      refine bodyPost_ret (v := trV k a b) (by simp [results, Try.results36, go_sem, z0, z1, z2]) rfl ?_
      rw [HT2.out]
      exact ⟨rfl, belowS (belowS (belowS HB4.out hBw.out _) hBw.out _) hBw.out _⟩
set_option maxHeartbeats 1000000 in
theorem next_table (A : Da w g f) (R : Rng f) (c : Nat) (hc : c < 8) (hb : f 102 = bitOf c) (hm : f (c * 12) / 64 % 2 = 0) (hw : f 101 ≠ 0) :
    Calls Try.prog 11 #[.pointer (some ⟨g, 0, none⟩)] w (Says w (.tuple #[trV (tabT c f).1 (tabT c f).2.1 (tabT c f).2.2, .bool true])) := by
  have c101 := A.cell (j := 101) (by omega)
  have t : (f 101 != 0) = true := by simpa using hw
  have hlt := A.lt
  have TN := Lib.hid (fun (w' : World) (A' : Da w' g f) => tableNext_any A' R c hc hb hm)
  obtain ⟨⟨k, a, b⟩, hk⟩ : ∃ q, tabT c f = q := ⟨_, rfl⟩
  rw [hk] at TN ⊢
  simp only at TN ⊢
  obtain ⟨y, hy⟩ : ∃ y, f 101 = y := ⟨_, rfl⟩
  rw [hy] at c101 t
  have HA := Lib.hid A
  clear A R hb hm hw hk hy
  go_enter Try.func11, Try.ntmps11
  go_wp2_with fail
  obtain ⟨W1, hW⟩ : ∃ W1, W1 = w.alloc (.cells #[.int .u8 0, .int .u32 0, .int .u8 0] 30) := ⟨_, rfl⟩
  obtain ⟨B, hB⟩ : ∃ B, B = w.heap.size := ⟨_, rfl⟩
  have BT : Hid (Blk W1 B 30 #[.int .u8 0, .int .u32 0, .int .u8 0]) := by rw [hW, hB]; exact Blk.new _ _ _
  have HB1 : Hid (Below w.heap.size w W1) := by rw [hW]; exact belowA (Below.refl _ _) _
  have hBw : Hid (w.heap.size ≤ B) := by rw [hB]; exact Nat.le_refl _
  rw [← hW, ← hB]
  clear hW hB
  refine (TN.out _ (HA.out.kept HB1.out)).mono ?_
  rintro e w2 ⟨rfl, hb2⟩
  have HB2 := Lib.hid (HB1.out.trans (hb2.mono HB1.out.size))
  have bt2 := BT.out.kept hb2
  have z0 := bt2.cell 0
  have z1 := bt2.cell 1
  have z2 := bt2.cell 2
  have f0 := bt2.frozen 0
  have f1 := bt2.frozen 1
  have f2 := bt2.frozen 2
  clear hb2 c101 HB1 BT TN bt2
  go_wp2_with fail
  exact bodyPost_ret (v := .tuple #[trV k a b, .bool true]) (by simp [results, Try.results11, go_sem, z0, z1, z2]) rfl ⟨rfl, belowS (belowS (belowS HB2.out hBw.out _) hBw.out _) hBw.out _⟩
end
end Go.Proofs.Ytkeikkkcmackeaa
