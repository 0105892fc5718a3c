/- dma: canWith. -/
import Derived.Test.YtkeikkkcmackeaaDmaW
import Derived.Laws.CopyOwn
import Derived.Test.YtkeikkkcmackeaaBigRows
namespace Go.Proofs.Ytkeikkkcmackeaa
open Go.RowKit
set_option linter.unusedVariables false
set_option linter.unusedSimpArgs false
set_option maxRecDepth 100000
/-- The first n cells from r, the others from f. -/
def mixF (r f : Nat → Int) (n : Nat) : Nat → Int := fun j => if j < n then r j else f j
theorem mix_rng {r f : Nat → Int} (h : Rng r) (k : Rng f) (n : Nat) : Rng (mixF r f n) := by
  intro j
  unfold mixF
  split
  · exact h j
  · exact k j
theorem Da.copied {w : World} {B : Nat} {r f : Nat → Int} {k : Nat} (hk : k < 8) (h : Da w B (mixF r f (k * 12))) : ∃ cur : Array Value, w.heap[B]? = some (.cells cur 71 (0, 0)) ∧ k * 12 + 12 ≤ cur.size ∧
    Da (w.setRow B (cur.toList.take (k * 12) ++ ((rowF r (k * 12) 12).map (Value.int .u8) ++ cur.toList.drop (k * 12 + 12))).toArray) B (mixF r f ((k + 1) * 12)) := by
  obtain ⟨cs, hb, hs, hc⟩ := h
  refine ⟨cs, hb, by omega, _, Blk.row hb _, ?_, ?_⟩
  · simp [rowF_len]; omega
  · intro j hj
    have hl : (cs.toList.take (k * 12)).length = k * 12 := by simp; omega
    simp only [List.getElem?_toArray]
    by_cases j1 : j < k * 12
    · rw [List.getElem?_append_left (by rw [hl]; exact j1), List.getElem?_take, if_pos j1, Array.getElem?_toList, hc j hj]
      simp only [mixF]; rw [if_pos j1, if_pos (by omega)]
    · rw [List.getElem?_append_right (by rw [hl]; omega), hl]
      by_cases j2 : j < k * 12 + 12
      · rw [List.getElem?_append_left (by simp [rowF_len]; omega)]
        have e : (rowF r (k * 12) 12)[j - k * 12]? = some (r j) := by
          simp [rowF, (show j - k * 12 < 12 by omega), (show k * 12 + (j - k * 12) = j by omega)]
        rw [List.getElem?_map, e]
        simp only [mixF, Option.map_some]; rw [if_pos (by omega)]
      · rw [List.getElem?_append_right (by simp [rowF_len]; omega)]
        rw [List.getElem?_drop, Array.getElem?_toList]
        have e : k * 12 + 12 + (j - k * 12 - ((rowF r (k * 12) 12).map (Value.int .u8)).length) = j := by simp [rowF_len]; omega
        rw [e, hc j hj]
        simp only [mixF]; rw [if_neg j1, if_neg (by omega)]
section
variable {w : World} {B : Nat} {r f : Nat → Int}
def cwS (B gb k c : Nat) : Nat → Value → List Value → World → Prop
  | 0, v, _, _ => v = at_ B 0
  | 1, v, _, _ => v = .int .i64 k
  | 2, v, _, _ => v = at_ B 0
  | 3, v, _, _ => v = at_ B 0
  | 4, v, _, _ => v = at_ B (k * 12)
  | 5, v, _, _ => v = .slice (some ⟨B, k * 12, none⟩) 12 12
  | 6, v, _, _ => v = .slice (some ⟨gb, 0, none⟩) 96 c
  | 7, v, _, _ => v = .int .i64 k
  | 8, v, _, _ => v = .int .i64 (12 * k)
  | 9, v, _, _ => v = .slice (some ⟨gb, k * 12, none⟩) (96 - k * 12) (c - k * 12)
  | _, _, _, _ => True
set_option maxHeartbeats 16000000 in
theorem canWith_any (A : Da w B f) (Rr : Rng r) (Rf : Rng f) (gb c : Nat) (hc : 96 ≤ c) (hrow : ∀ j, j < 96 → w.cell? ⟨gb, j, none⟩ = some (.int .u8 (r j))) (hg : gb ≠ B) :
    Calls Try.prog 66 #[at_ B 0, .slice (some ⟨gb, 0, none⟩) 96 c] w (fun e w' => e = .returned (.bool (canD (mixF r f 96))) ∧ Da w' B (mixF r f 96) ∧ Upd w B w') := by
  have AA := Lib.hid A
  have HR := Lib.hid hrow
  have hgl : gb < w.heap.size := World.block_lt_of_cell? _ _ (hrow 0 (by omega))
  clear A hrow
  go_enter Try.func66, Try.ntmps66
  go_wp2_with fail
  go_loopw [6] (fun i wr => ∃ k : Nat, k ≤ 8 ∧ i = .int .i64 k ∧ Da wr B (mixF r f (k * 12)) ∧ Upd w B wr) (fun i _ => 8 - (intOf i).toNat)
  case atStart => exact ⟨0, by omega, rfl, AA.out.congr (fun j _ => by simp [mixF]), Upd.refl _ _⟩
  case round =>
    obtain ⟨k, hk, rfl, ha, hu⟩ := hrel
    have HA := Lib.hid ha
    have HU := Lib.hid hu
    clear ha hu
    by_cases hlt : k < 8
    · go_upto_region 4 with fail
      refine wp_region_tail 10 _ rfl rfl rfl (by kernel_rfl) (by kernel_rfl) (by kernel_rfl) (C := fun w' => w' = wr.drew) (S := cwS B gb k c) (Ev := evE) (fun _ _ _ _ _ h e => by cases e; exact h) ?_ ?_ ?_
      · rfl
      · simp only [List.take_succ_cons, List.take_zero, stepsOf]
        refine ⟨fun us w' hw hd => stepOf_plain rfl ?_, fun us w' hw hd => stepOf_plain rfl ?_, fun us w' hw hd => stepOf_plain rfl ?_, fun us w' hw hd => stepOf_plain rfl ?_, fun us w' hw hd => stepOf_plain rfl ?_, fun us w' hw hd => stepOf_plain rfl ?_, fun us w' hw hd => stepOf_plain rfl ?_, fun us w' hw hd => stepOf_plain rfl ?_, fun us w' hw hd => stepOf_plain rfl ?_, fun us w' hw hd => stepOf_plain rfl ?_, trivial⟩
        all_goals simp only [fill, List.filterMap_cons, List.filterMap_nil]
        all_goals subst hw
        · go_simp
          exact ⟨_, rfl, rfl, rfl, rfl⟩
        · go_simp
          exact ⟨_, rfl, rfl, rfl, rfl⟩
        · have h : us 9 = at_ B 0 := hd.1 rfl
          go_simp
          exact ⟨_, rfl, rfl, rfl, rfl⟩
        · have h : us 11 = at_ B 0 := hd.1 rfl
          go_simp
          exact ⟨_, rfl, rfl, rfl, rfl⟩
        · have h : us 12 = at_ B 0 := hd.1 rfl
          have h2 : us 10 = .int .i64 k := hd.2.1 rfl
          go_simp
          exact ⟨_, rfl, rfl, by first | rfl | simp [cwS], rfl⟩
        · have h : us 13 = at_ B (k * 12) := hd.1 rfl
          have hsl := slice_ch B (k * 12) wr.drew
          go_simp
          exact ⟨_, rfl, rfl, rfl, rfl⟩
        · go_simp
          exact ⟨_, rfl, rfl, rfl, rfl⟩
        · go_simp
          exact ⟨_, rfl, rfl, rfl, rfl⟩
        · have h : us 16 = .int .i64 k := hd.1 rfl
          have qw : IntKind.i64.wrap (12 * (k : Int)) = 12 * k := by rw [IntKind.wrap_i64]; omega
          go_simp
          exact ⟨_, rfl, rfl, by first | rfl | simp [cwS, qw], rfl⟩
        · have h : us 15 = .slice (some ⟨gb, 0, none⟩) 96 c := hd.1 rfl
          have h2 : us 17 = .int .i64 (12 * k) := hd.2.1 rfl
          have q1 : (0 : Int) ≤ 12 * (k : Int) ∧ 12 * (k : Int) ≤ 96 := by omega
          have q3 : (12 * (k : Int)).toNat = k * 12 := by omega
          have q4 : ¬ c = k * 12 := by omega
          go_simp
          try rw [if_pos q1, q3, if_neg q4]
          exact ⟨_, rfl, rfl, rfl, rfl⟩
      · intro us w' hw ha
        subst hw
        simp only [fill, List.filterMap_cons, List.filterMap_nil]
        have h1 : us 14 = .slice (some ⟨B, k * 12, none⟩) 12 12 := ha.2.2.2.2.2.1
        have h2 : us 18 = .slice (some ⟨gb, k * 12, none⟩) (96 - k * 12) (c - k * 12) := ha.2.2.2.2.2.2.2.2.2.1
        obtain ⟨cur, hcur, hsz, hnew⟩ := Da.copied hlt HA.out.drew
        have hrun := Go.run_copy_row (P := Try.prog) wr.drew 40 40 3 5 B (k * 12) 12 12 ⟨gb, k * 12, none⟩ (96 - k * 12) (c - k * 12) cur 71 ((rowF r (k * 12) 12).map (Value.int .u8)) Try.underlying40 (by kernel_rfl) hcur
          (by rw [List.length_map, rowF_len]; show 12 = min (96 - k * 12) 12; omega)
          (pcNews (fun j u hj => by
            obtain ⟨hj, rfl⟩ := rowF_at _ _ _ _ _ hj
            have := HR.out (k * 12 + j) (by omega)
            exact (HU.out.drew.cell (p := ⟨gb, k * 12 + j, none⟩) hgl hg).trans this))
          (by rw [List.length_map, rowF_len]; exact hsz) (oneNews _)
        rw [List.length_map, rowF_len] at hrun
        rw [List.append_assoc] at hrun
        have hu9 := HU.out.drew.row (cur.toList.take (k * 12) ++ ((rowF r (k * 12) 12).map (Value.int .u8) ++ cur.toList.drop (k * 12 + 12))).toArray
        generalize wr.drew.setRow B _ = W9 at hrun hnew hu9
        have HN := Lib.hid hnew
        have HU9 := Lib.hid hu9
        clear ha hcur hnew hu9 HA HU
        go_simp
        go_wp2_with fail
        go_roundw
        case rel => exact ⟨k + 1, by omega, by go_num, HN.out, HU9.out⟩
        case measure => simp [intOf]; omega
    · have hk8 : k = 8 := by omega
      subst hk8
      have H9 : Hid (Da wr B (mixF r f 96)) := Lib.hid HA.out
      have CA := Lib.hid (can_any H9.out (mix_rng Rr Rf 96))
      clear HA
      go_wp2_with fail
      refine CA.out.mono ?_
      rintro e w1 ⟨rfl, b1⟩
      have A1 := Lib.hid (H9.out.kept b1)
      have U1 := Lib.hid (HU.out.below b1)
      clear b1 CA
      go_wp2_with fail
      go_ret
      exact ⟨rfl, A1.out, U1.out⟩
end
end Go.Proofs.Ytkeikkkcmackeaa
