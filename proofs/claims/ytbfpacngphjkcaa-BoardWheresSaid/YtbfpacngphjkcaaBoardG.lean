/- 'made': a board of a plan. -/
import Derived.Test.YtbfpacngphjkcaaBoardF
import Derived.Test.YtbfpacngphjkcaaRel
import Derived.Deep.DeepCutAuto
namespace Go.Proofs.Ytbfpacngphjkcaa
open Go.RowKit
set_option linter.unusedVariables false
set_option linter.unusedSimpArgs false

abbrev planV (lay rom ram by_ : Int) : Value := .agg #[.int .u8 lay, .int .i64 rom, .int .i64 ram, .int .u8 by_]
def romN (rom : Int) : Nat := if 0 ≤ rom ∧ rom ≤ 8388609 then rom.toNat else 32768
theorem romN_le (rom : Int) : romN rom ≤ 8388609 := by unfold romN; split <;> omega

def MadeOut (lay ram : Int) (n : Nat) (W : World) (e : Ending) (w' : World) : Prop :=
  (canB lay n ram = true ∧ ∃ gb gr gm ga gc cap g0 f, e = .returned (.tuple #[.pointer (some ⟨gb, 0, none⟩), .slice (some ⟨g0, 0, none⟩) n n, .bool true]) ∧
    BoardIn w' W.heap.size lay gb gr gm ga gc n cap ram.toNat f (fun _ => 0) ∧ Arr w' .u8 5 g0 n f ∧ W.heap.size ≤ g0 ∧ g0 ≠ ga ∧ Below W.heap.size W w') ∨
  (canB lay n ram = false ∧ ∃ g0, e = .returned (.tuple #[.pointer none, .slice (some ⟨g0, 0, none⟩) n n, .bool true]) ∧ Below W.heap.size W w')

theorem canB_no {lay ram : Int} {n : Nat} (l0 : 0 ≤ lay) (h : canB lay n ram = false) : lay < 1 ∨ (1 ≤ lay ∧ 3 < lay) ∨ (1 ≤ lay ∧ lay ≤ 3 ∧ n = 0) ∨ (1 ≤ lay ∧ lay ≤ 3 ∧ 1 ≤ n ∧ 8388608 < n) ∨ (1 ≤ lay ∧ lay ≤ 3 ∧ 1 ≤ n ∧ n ≤ 8388608 ∧ ram < 0) ∨ (1 ≤ lay ∧ lay ≤ 3 ∧ 1 ≤ n ∧ n ≤ 8388608 ∧ 0 ≤ ram ∧ 524288 < ram) := by
  unfold canB at h
  have := of_decide_eq_false h
  omega

/-- What the statement 'c := Cart{..}' yields, operation by operation. -/
def cartS (W2 : World) (B : Nat) (lay ram : Int) (n : Nat) (f : Nat → Int) (i : Nat) (v : Value) (vs : List Value) (w : World) : Prop :=
  match i with
  | 0 => v = .pointer (some ⟨B, 0, none⟩)
  | 1 => v = .int .u8 lay
  | 2 => v = .slice (some ⟨B + 1, 0, none⟩) n n
  | 3 => ∃ g1, v = .slice (some ⟨g1, 0, none⟩) n n ∧ W2.heap.size ≤ g1 ∧ Arr w .u8 5 g1 n f
  | 4 => v = .pointer (some ⟨B, 2, none⟩)
  | 5 => v = .int .i64 ram
  | 6 => ∃ g1, v = cartV lay g1 n n ram ∧ W2.heap.size ≤ g1 ∧ Arr w .u8 5 g1 n f
  | 7 => ∃ gC cs, v = .pointer (some ⟨gC, 0, none⟩) ∧ cs.size = 8 ∧ Blk w gC 60 cs ∧ W2.heap.size ≤ gC
  | 8 => ∃ gC g1, vs[0]? = some (.pointer (some ⟨gC, 0, none⟩)) ∧ Blk w gC 60 (cartV lay g1 n n ram).cells ∧ Arr w .u8 5 g1 n f ∧ W2.heap.size ≤ g1
  | _ => True
/-- Of what is there only a Cart may change, and into this one. -/
def cartEv (W2 : World) (lay ram : Int) (n : Nat) (f : Nat → Int) (w w' : World) : Prop := ∀ (b : Nat) (t : TypeId) (cs : Array Value), w.heap[b]? = some (.cells cs t (0, 0)) →
  w'.heap[b]? = some (.cells cs t (0, 0)) ∨ (t = 60 ∧ cs.size = 8 ∧ ∃ g1, w'.heap[b]? = some (.cells (cartV lay g1 n n ram).cells t (0, 0)) ∧ Arr w' .u8 5 g1 n f ∧ W2.heap.size ≤ g1)
section
variable {W2 : World} {lay ram : Int} {n : Nat} {f : Nat → Int}
theorem cartEv_refl (w : World) : cartEv W2 lay ram n f w w := fun b t cs h => Or.inl h
theorem cartEv_below {w w' : World} (k : Below w.heap.size w w') : cartEv W2 lay ram n f w w' := fun b t cs h => Or.inl ((k.block b (Blk.lt (t := t) (cs := cs) h)).trans h)
theorem cartEv_upd {w w' : World} {g g1 : Nat} {c : Array Value} (hb : Blk w g 60 c) (k : Upd w g w') (hs : c.size = 8) (hb' : Blk w' g 60 (cartV lay g1 n n ram).cells) (ha : Arr w' .u8 5 g1 n f) (hl : W2.heap.size ≤ g1) : cartEv W2 lay ram n f w w' := fun b t cs h => by
  by_cases e : b = g
  · subst e
    unfold Blk at hb hb'
    rw [hb] at h
    cases h
    exact Or.inr ⟨rfl, hs, g1, hb', ha, hl⟩
  · exact Or.inl ((k.block b (Blk.lt (t := t) (cs := cs) h) e).trans h)
theorem cartEv_arr {w w' : World} {g : Nat} (k : cartEv W2 lay ram n f w w') (h : Arr w .u8 5 g n f) : Arr w' .u8 5 g n f := by
  obtain ⟨cs, hb, r⟩ := h
  rcases k g 5 cs hb with h | ⟨h, _⟩
  · exact ⟨cs, h, r⟩
  · cases h
theorem cartS_mono {B : Nat} : ∀ i v vs w w', cartS W2 B lay ram n f i v vs w → cartEv W2 lay ram n f w w' → cartS W2 B lay ram n f i v vs w' := by
  intro i v vs w w' h k
  match i, h with
  | 0, h => exact h
  | 1, h => exact h
  | 2, h => exact h
  | 3, ⟨g1, h1, h2, h3⟩ => exact ⟨g1, h1, h2, cartEv_arr k h3⟩
  | 4, h => exact h
  | 5, h => exact h
  | 6, ⟨g1, h1, h2, h3⟩ => exact ⟨g1, h1, h2, cartEv_arr k h3⟩
  | 7, ⟨gC, cs, h1, h2, h3, h4⟩ =>
    rcases k gC 60 cs h3 with this | ⟨_, _, g1, this, _⟩
    · exact ⟨gC, cs, h1, h2, this, h4⟩
    · exact ⟨gC, _, h1, rfl, this, h4⟩
  | 8, ⟨gC, g1, h1, h2, h3, h4⟩ =>
    rcases k gC 60 _ h2 with this | ⟨_, _, g2, this, h5, h6⟩
    · exact ⟨gC, g1, h1, this, cartEv_arr k h3, h4⟩
    · exact ⟨gC, g2, h1, this, h5, h6⟩
  | i + 9, _ => exact True.intro
end

set_option maxHeartbeats 4000000 in
theorem made_any (lay rom ram by_ : Int) (w : World) (l0 : 0 ≤ lay) (l1 : lay ≤ 255) (y0 : 0 ≤ by_) (y1 : by_ ≤ 255) (r0 : -9223372036854775808 ≤ rom) (r1 : rom ≤ 9223372036854775807) :
    Calls Try.prog 11 #[planV lay rom ram by_] w (MadeOut lay ram (romN rom) w) := by
  obtain ⟨n, hn⟩ : ∃ n, romN rom = n := ⟨_, rfl⟩
  have hle := romN_le rom
  rw [hn] at hle ⊢
  have hcase : rom = n ∨ (rom < 0 ∧ n = 32768) ∨ (0 ≤ rom ∧ 8388609 < rom ∧ n = 32768) := by
    unfold romN at hn; split at hn <;> omega
  clear hn
  have hmk := makeU8 n (by omega)
  have hmk2 := makeU8 32768 (by omega)
  have hcase : (∃ k : Nat, rom = k ∧ Hid (n = k)) ∨ (rom < 0 ∧ Hid (n = 32768)) ∨ (0 ≤ rom ∧ 8388609 < rom ∧ Hid (n = 32768)) := by
    rcases hcase with h | h | h
    · exact Or.inl ⟨n, h, rfl⟩
    · exact Or.inr (Or.inl h)
    · exact Or.inr (Or.inr h)
  have hK : ∀ k : Nat, Hid (n = k) → k ≤ 8388609 := fun k h => by rw [← h.out]; exact hle
  rcases hcase with ⟨k, rfl, HN⟩ | ⟨c1, HN⟩ | ⟨c0, c1, HN⟩
  all_goals
    try have hk := hK k HN
    clear hK
    go_enter Try.func11, Try.ntmps11
    try simp only [List.append_eq, List.cons_append, List.nil_append]
    go_upto_if 18 with (fail)
    go_cut [] from 11 to 18 (fun wx => wx = w.alloc (.cells #[.int .u8 lay, .int .i64 n, .int .i64 ram, .int .u8 by_] 23))
    case first =>
      go_wp2_with fail
      go_meet
      rw [HN.out]
      try (first | rfl | simp)
    case rest =>
      subst hcut
      clear HN
      try clear hk
      go_wp2_with fail
      obtain ⟨W1, hW⟩ : ∃ W1, W1 = (w.alloc (.cells #[.int .u8 lay, .int .i64 n, .int .i64 ram, .int .u8 by_] 23)).alloc (.cells (zeros .u8 n) 5) := ⟨_, rfl⟩
      obtain ⟨B, hB⟩ : ∃ B, B = w.heap.size := ⟨_, rfl⟩
      have c0 : W1.cell? ⟨B, 0, none⟩ = some (.int .u8 lay) := by rw [hW, hB]; simp [go_sem]
      have c1 : W1.cell? ⟨B, 1, none⟩ = some (.int .i64 n) := by rw [hW, hB]; simp [go_sem]
      have c2 : W1.cell? ⟨B, 2, none⟩ = some (.int .i64 ram) := by rw [hW, hB]; simp [go_sem]
      have c3 : W1.cell? ⟨B, 3, none⟩ = some (.int .u8 by_) := by rw [hW, hB]; simp [go_sem]
      have ca : Arr W1 .u8 5 (B + 1) n (fun _ => 0) := by
        have := Arr.zero (w.alloc (.cells #[.int .u8 lay, .int .i64 n, .int .i64 ram, .int .u8 by_] 23)) .u8 5 n
        rw [hW, hB]; simpa using this
      have cb : Below w.heap.size w W1 := by rw [hW]; exact belowA (belowA (Below.refl _ _) _) _
      rw [← hW, ← hB]
      have hBl : B < W1.heap.size := World.block_lt_of_cell? _ _ c0
      have HA := Lib.hid ca
      have HB := Lib.hid cb
      have HE := Lib.hid hB
      have K0 := Lib.hid c0
      have K1 := Lib.hid c1
      have K2 := Lib.hid c2
      have K3 := Lib.hid c3
      clear hW ca cb hB c0 c1 c2 c3
      go_loopw [6] (fun i wr => ∃ k : Nat, k ≤ n ∧ i = .int .i64 k ∧ (∃ f, Arr wr .u8 5 (B + 1) n f) ∧ Upd W1 (B + 1) wr) (fun i _ => n - (intOf i).toNat)
      case atStart => exact ⟨0, Nat.zero_le _, rfl, ⟨_, HA.out⟩, Upd.refl _ _⟩
      case round =>
        obtain ⟨k, hk, rfl, ⟨f, ha⟩, hu⟩ := hrel
        have c1 : wr.cell? ⟨B, 1, none⟩ = some (.int .i64 n) := by rw [← K1.out]; exact hu.cell (p := ⟨B, 1, none⟩) hBl (by show B ≠ B + 1; omega)
        have c3 : wr.cell? ⟨B, 3, none⟩ = some (.int .u8 by_) := by rw [← K3.out]; exact hu.cell (p := ⟨B, 3, none⟩) hBl (by show B ≠ B + 1; omega)
        have HF := Lib.hid ha
        have HU := Lib.hid hu
        by_cases hlt : k < n
        · have hgk := ha.cell hlt
          have hfk := ha.frozen k
          clear ha hu
          go_wp2_with fail
          go_roundw
          case rel => exact ⟨k + 1, by omega, by go_num, ⟨_, HF.out.set hlt _⟩, HU.out.set _ _⟩
          case measure => simp [intOf]; omega
        · clear ha hu c3
          go_wp2_with fail
          obtain ⟨W2, hW2⟩ : ∃ W2, W2 = wr := ⟨_, rfl⟩
          have c0 : W2.cell? ⟨B, 0, none⟩ = some (.int .u8 lay) := by rw [← K0.out, hW2]; exact HU.out.cell (p := ⟨B, 0, none⟩) hBl (by show B ≠ B + 1; omega)
          have c2 : W2.cell? ⟨B, 2, none⟩ = some (.int .i64 ram) := by rw [← K2.out, hW2]; exact HU.out.cell (p := ⟨B, 2, none⟩) hBl (by show B ≠ B + 1; omega)
          have HW : Hid (Below w.heap.size w W2) := by rw [hW2]; exact HU.out.out HB.out (by rw [HE.out]; omega)
          have HF2 : Hid (Arr W2 .u8 5 (B + 1) n f) := by rw [hW2]; exact HF.out
          have cs : Below W2.heap.size W2 W2 := Below.refl _ _
          rw [← hW2]
          clear c1 hW2 HF HU HA HB K0 K1 K2 K3
          go_cut [7] from 40 to 46 (fun s7 wx => ∃ gC g1, s7 = .pointer (some ⟨gC, 0, none⟩) ∧ Blk wx gC 60 #[.int .u8 lay, .int .u8 0, .slice (some ⟨g1, 0, none⟩) n n, .int .i64 ram, .string ⟨#[]⟩, .int .u16 0, .bool false, .slice none 0 0] ∧ Arr wx .u8 5 g1 n f ∧ W2.heap.size ≤ g1 ∧ g1 ≠ gC ∧ Below W2.heap.size W2 wx)
          case first =>
            refine wp_region_rel (C := fun w' => Below W2.heap.size W2 w') (S := cartS W2 B lay ram n f) (Ev := cartEv W2 lay ram n f) (by kernel_rfl) (by kernel_rfl) cartS_mono ?_ ?_ ?_
            · exact belowD cs
            · simp only [stepsOf]
              refine ⟨fun us w' hw hd => stepOf_plain rfl ?_, fun us w' hw hd => stepOf_plain rfl ?_, fun us w' hw hd => stepOf_plain rfl ?_, fun us w' hw hd => stepOf_plain rfl ?_, fun us w' hw hd => stepOf_plain rfl ?_, fun us w' hw hd => stepOf_plain rfl ?_, fun us w' hw hd => stepOf_plain rfl ?_, fun us w' hw hd => stepOf_plain rfl ?_, fun us w' hw hd => stepOf_plain rfl ?_, trivial⟩
              all_goals simp only [fill, List.filterMap_cons, List.filterMap_nil]
              · go_simp
                exact ⟨_, rfl, hw, rfl, cartEv_refl _⟩
              · have h : us 40 = .pointer (some ⟨B, 0, none⟩) := hd.1 rfl
                have c := keepC hw c0
                go_simp
                exact ⟨_, rfl, hw, rfl, cartEv_refl _⟩
              · go_simp
                exact ⟨_, rfl, hw, rfl, cartEv_refl _⟩
              · have h : us 42 = .slice (some ⟨B + 1, 0, none⟩) n n := hd.1 rfl
                go_simp
                refine (copyBytes_any _ n f _ (HF2.out.kept hw).sees (by omega)).mono ?_
                rintro e w2 ⟨g1, rfl, hc1, hC, hbC⟩
                exact ⟨_, rfl, belowStep hw hbC, ⟨g1, rfl, Nat.le_trans hw.size hc1, hC⟩, cartEv_below hbC⟩
              · go_simp
                exact ⟨_, rfl, hw, rfl, cartEv_refl _⟩
              · have h : us 44 = .pointer (some ⟨B, 2, none⟩) := hd.1 rfl
                have c := keepC hw c2
                go_simp
                exact ⟨_, rfl, hw, rfl, cartEv_refl _⟩
              · have h1 : us 41 = .int .u8 lay := hd.1 rfl
                obtain ⟨g1, h3, h4, h5⟩ : ∃ g1, us 43 = .slice (some ⟨g1, 0, none⟩) n n ∧ W2.heap.size ≤ g1 ∧ Arr w' .u8 5 g1 n f := hd.2.1 rfl
                have h6 : us 45 = .int .i64 ram := hd.2.2.1 rfl
                have H5 := Lib.hid h5
                clear h5
                go_simp
                exact ⟨_, rfl, hw, ⟨g1, rfl, h4, H5.out⟩, cartEv_refl _⟩
              · go_simp
                exact ⟨_, rfl, belowA hw _, ⟨w'.heap.size, _, rfl, rfl, Blk.new _ _ _, hw.size⟩, cartEv_below (belowA (Below.refl _ _) _)⟩
              · obtain ⟨gC, cs8, h1, h2, h3, h4⟩ : ∃ (gC : Nat) (cs : Array Value), us 7 = .pointer (some ⟨gC, 0, none⟩) ∧ cs.size = 8 ∧ Blk w' gC 60 cs ∧ W2.heap.size ≤ gC := hd.1 rfl
                obtain ⟨g1, h5, h6, h7⟩ : ∃ g1, us 46 = cartV lay g1 n n ram ∧ W2.heap.size ≤ g1 ∧ Arr w' .u8 5 g1 n f := hd.2.1 rfl
                obtain ⟨a0, a1, a2, a3, a4, a5, a6, a7, rfl⟩ := eight_of h2
                have z := h3.eight
                have H7 := Lib.hid h7
                have H3 := Lib.hid h3
                clear h7 h3 h2
                obtain ⟨z0, z1, z2, z3, z4, z5, z6, z7, f0, f1, f2, f3, f4, f5, f6, f7⟩ := z
                go_simp
                obtain ⟨hB8, hU8⟩ := H3.out.put8 (.int .u8 lay) (.int .u8 0) (.slice (some ⟨g1, 0, none⟩) n n) (.int .i64 ram) (.string ⟨#[]⟩) (.int .u16 0) (.bool false) (.slice none 0 0)
                have hne : g1 ≠ gC := by
                  rintro rfl
                  obtain ⟨cs, q, _⟩ := H7.out
                  have q2 := H3.out
                  unfold Blk at q q2
                  rw [q] at q2
                  cases q2
                have ha8 := hU8.arr H7.out hne
                exact ⟨undef, rfl, hU8.out hw h4, ⟨gC, g1, congrArg some h1, hB8, ha8, h6⟩, cartEv_upd H3.out hU8 rfl hB8 ha8 h6⟩
            · intro us w' hw ha
              obtain ⟨_, _, _, _, _, _, _, ⟨gC, cs, h1, _⟩, ⟨gC', g1, h2, h3, h4, h5⟩, _⟩ := ha
              have h2' : some (us 7) = some (.pointer (some ⟨gC', 0, none⟩)) := h2
              have e7 : us 7 = .pointer (some ⟨gC', 0, none⟩) := by injection h2'
              have hne : g1 ≠ gC' := by
                rintro rfl
                obtain ⟨cs, q, _⟩ := h4
                unfold Blk at q h3
                rw [q] at h3
                cases h3
              have REL : Hid (∃ gC g1, us 7 = .pointer (some ⟨gC, 0, none⟩) ∧ Blk w' gC 60 #[.int .u8 lay, .int .u8 0, .slice (some ⟨g1, 0, none⟩) n n, .int .i64 ram, .string ⟨#[]⟩, .int .u16 0, .bool false, .slice none 0 0] ∧ Arr w' .u8 5 g1 n f ∧ W2.heap.size ≤ g1 ∧ g1 ≠ gC ∧ Below W2.heap.size W2 w') := ⟨gC', g1, e7, h3, h4, h5, hne, hw⟩
              clear h1 h2 h2' e7 h3 h4 h5 hne hw
              simp only [fill, List.filterMap_cons, List.filterMap_nil, List.contains_cons, List.contains_nil, Nat.zero_add, Nat.reduceAdd, Nat.reduceBEq, Bool.or_false, Bool.or_true, Bool.false_or, Bool.true_or, Bool.or_self, Bool.false_eq_true, if_true, if_false]
              go_wp2_with fail
              go_meet
              exact REL.out
          case rest =>
            obtain ⟨gC, g1, rfl, hbC, ha1, hl1, hne, hbw⟩ := hcut
            have z := hbC.eight
            have HBC := Lib.hid hbC
            have HA1 := Lib.hid ha1
            have HBW := Lib.hid hbw
            have hlt1 : B + 1 < W2.heap.size := HF2.out.lt
            have hltc : g1 < wc.heap.size := ha1.lt
            have hszw := hbw.size
            clear hbC ha1 hbw c0 c2 cs
            obtain ⟨z0, z1, z2, z3, z4, z5, z6, z7, f0, f1, f2, f3, f4, f5, f6, f7⟩ := z
            clear f0 f1 f2 f3 f4 f5 f6 f7
            by_cases can : canB lay n ram = true
            · have can' := can
              unfold canB at can'
              obtain ⟨b1, b2, b3, b4, b5, b6⟩ := of_decide_eq_true can'
              obtain ⟨r, rfl⟩ := Int.eq_ofNat_of_zero_le b5
              have CAN := Lib.hid can
              clear can can'
              go_wp2_with fail
              refine (new_yes lay r g1 n n f _ HA1.out b1 b2 b3 b4 (by omega)).mono ?_
              rintro e w3 ⟨gb, gr, gm, ga, gc, cap, rfl, hB3, hb3⟩
              have k3 := HBC.out.kept hb3
              have a3 := HA1.out.kept hb3
              have s3 := (HF2.out.kept HBW.out).kept hb3
              have z := k3.eight
              have H3 := Lib.hid hB3
              have HB3 := Lib.hid hb3
              have K3 := Lib.hid k3
              have A3 := Lib.hid a3
              have S3 := Lib.hid s3
              have la3 := hB3.la
              clear hB3 hb3 k3 a3 s3 z0 z1 z2 z3 z4 z5 z6 z7
              obtain ⟨z0, z1, z2, z3, z4, z5, z6, z7, f0, f1, f2, f3, f4, f5, f6, f7⟩ := z
              clear f0 f1 f2 f3 f4 f5 f6 f7
              go_wp2_with fail
              refine (spoilBytes_any g1 n n f _ A3.out (by omega)).mono ?_
              rintro e w4 ⟨rfl, ⟨f', ha4⟩, hu⟩
              have k4 := hu.blk K3.out (Ne.symm hne)
              have z := k4.eight
              have BD := Lib.hid (H3.out.away hu hltc)
              have S4 := Lib.hid (hu.arr S3.out (show B + 1 ≠ g1 by omega))
              have HU := Lib.hid hu
              clear ha4 hu k4 z0 z1 z2 z3 z4 z5 z6 z7
              obtain ⟨z0, z1, z2, z3, z4, z5, z6, z7, f0, f1, f2, f3, f4, f5, f6, f7⟩ := z
              clear f0 f1 f2 f3 f4 f5 f6 f7
              go_wp2_with fail
              refine (rnew_yes lay r g1 n n _ b1 b2 b3 b4 b5 b6).mono ?_
              rintro e w5 ⟨rfl, hb5⟩
              have HB5 := Lib.hid hb5
              clear hb5 z0 z1 z2 z3 z4 z5 z6 z7
              go_wp2_with fail
              go_ret3
              have hsz := HW.out.size
              exact Or.inl ⟨CAN.out, gb, gr, gm, ga, gc, cap, B + 1, f, rfl, ((BD.out.kept HB5.out).mono (by omega)), S4.out.kept HB5.out, by have := HE.out; omega, by omega, belowStep (HU.out.out (belowStep (belowStep HW.out HBW.out) HB3.out) (by omega)) HB5.out⟩
            · have no := canB_no l0 (by simpa using can)
              have CAN : Hid (canB lay n ram = false) := by simpa [Hid] using can
              have NO := Lib.hid no
              clear can no
              go_wp2_with fail
              refine (new_no lay ram g1 n n _ l0 NO.out).mono ?_
              rintro e w3 ⟨rfl, hb3⟩
              have k3 := HBC.out.kept hb3
              have a3 := HA1.out.kept hb3
              have z := k3.eight
              have HB3 := Lib.hid hb3
              have K3 := Lib.hid k3
              have A3 := Lib.hid a3
              clear hb3 k3 a3 z0 z1 z2 z3 z4 z5 z6 z7
              obtain ⟨z0, z1, z2, z3, z4, z5, z6, z7, f0, f1, f2, f3, f4, f5, f6, f7⟩ := z
              clear f0 f1 f2 f3 f4 f5 f6 f7
              go_wp2_with fail
              refine (spoilBytes_any g1 n n f _ A3.out (by omega)).mono ?_
              rintro e w4 ⟨rfl, ⟨f', ha4⟩, hu⟩
              have k4 := hu.blk K3.out (Ne.symm hne)
              have z := k4.eight
              have HU := Lib.hid hu
              clear ha4 hu k4 z0 z1 z2 z3 z4 z5 z6 z7
              obtain ⟨z0, z1, z2, z3, z4, z5, z6, z7, f0, f1, f2, f3, f4, f5, f6, f7⟩ := z
              clear f0 f1 f2 f3 f4 f5 f6 f7
              go_wp2_with fail
              refine (rnew_no lay ram g1 n n _ l0 NO.out).mono ?_
              rintro e w5 ⟨rfl, hb5⟩
              have HB5 := Lib.hid hb5
              clear hb5 z0 z1 z2 z3 z4 z5 z6 z7
              go_wp2_with fail
              go_ret3
              have hsz := HW.out.size
              exact Or.inr ⟨CAN.out, B + 1, rfl, belowStep (HU.out.out (belowStep (belowStep HW.out HBW.out) HB3.out) (by omega)) HB5.out⟩
end Go.Proofs.Ytbfpacngphjkcaa
