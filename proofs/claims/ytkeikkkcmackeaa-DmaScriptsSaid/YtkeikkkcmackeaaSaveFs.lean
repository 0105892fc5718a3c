/- save: Byte save: Bytes. -/
import Derived.Test.YtkeikkkcmackeaaSaveEs
import Derived.Test.YtkeikkkcmackeaaSaveLs
namespace Go.Proofs.Ytkeikkkcmackeaa
open Go.RowKit Go.Shelf
set_option linter.unusedVariables false
set_option linter.unusedSimpArgs false
set_option maxRecDepth 100000
section
variable {w : World} {g : Nat} {bv : Value} {bs : List Int}

set_option maxHeartbeats 4000000 in
theorem byteC (H : Wr w g bv bs) (b0 b1 : Nat) (v : Int) (c0 : w.cell? ⟨b0, 0, none⟩ = some (wrP' g)) (c1 : w.cell? ⟨b1, 0, none⟩ = some (.int .u8 v)) (v0 : 0 ≤ v) (v1 : v ≤ 255) (hl : bs.length ≤ 1048576) :
    Calls Try.prog 81 #[.pointer (some ⟨b0, 0, none⟩), .pointer (some ⟨b1, 0, none⟩)] w (PutP w g bv (bs ++ le 1 v)) := by
  have HH := Lib.hid H
  have C0 := Lib.hid c0
  have C1 := Lib.hid c1
  clear H c0 c1
  go_enter Try.func81, Try.ntmps81
  go_upto_region 0 with (fail)
  refine wp_region_tail 4 _ rfl rfl rfl (by kernel_rfl) (by kernel_rfl) (by kernel_rfl) (C := fun w' => Below w.heap.size w w') (S := pcS g w.heap.size (.int .u8 v) (le 1 v)) (Ev := evSv) pcS_mono ?_ ?_ ?_
  · exact belowD (Below.refl _ _)
  · simp only [List.take_succ_cons, List.take_zero, stepsOf]
    refine ⟨fun us w' hw hd => stepOf_plain rfl ?_, fun us w' hw hd => stepOf_plain rfl ?_, fun us w' hw hd => stepOf_plain rfl ?_, fun us w' hw hd => stepOf_plain rfl ?_, trivial⟩
    all_goals simp only [fill, List.filterMap_cons, List.filterMap_nil]
    · have c := keepC hw C0.out
      go_simp
      exact ⟨_, rfl, hw, rfl, Below.refl _ _⟩
    · have c := keepC hw C1.out
      go_simp
      exact ⟨_, rfl, hw, rfl, Below.refl _ _⟩
    · have h : us 3 = .int .u8 v := hd.1 rfl
      go_simp
      refine (laid8_any v 1 _ v0 v1 (by omega)).mono ?_
      rintro e w2 ⟨pv, rfl, hr, hb⟩
      exact ⟨_, rfl, hw.trans (hb.mono hw.size), hr.weak hw.size, hb⟩
    · have h : Laid w.heap.size (le 1 v) (us 4) w' := hd.1 rfl
      obtain ⟨x, hx⟩ : ∃ x, us 4 = x := ⟨_, rfl⟩
      rw [hx] at h
      obtain ⟨ao, c, rfl⟩ := SRow.slice h
      have HL := Lib.hid h
      clear h
      go_simp
      exact ⟨_, rfl, belowA hw _, Row1.new HL.out _, belowA (Below.refl _ _) _⟩
  · intro us w' hw ha
    simp only [fill, List.filterMap_cons, List.filterMap_nil]
    have h0 : us 2 = wrP' g := ha.1
    obtain ⟨x, hx⟩ : ∃ x, us 5 = x := ⟨_, rfl⟩
    have h3 : Row1 w.heap.size (le 1 v) (us 5) w' := ha.2.2.2.1
    rw [hx] at h3
    have H3 := Lib.hid h3
    clear h3 ha
    go_simp
    refine (put_one HH.out hw H3.out (by simp [le]) (by rw [le_len]; omega) hl).mono ?_
    rintro e w2 ⟨rfl, hp⟩
    have HP := Lib.hid hp
    clear hp
    go_wp2_with fail
    go_end0
    exact ⟨rfl, HP.out⟩
set_option maxHeartbeats 4000000 in
theorem byte_any (H : Wr w g bv bs) (v : Int) (v0 : 0 ≤ v) (v1 : v ≤ 255) (hl : bs.length ≤ 1048576) :
    Calls Try.prog 59 #[wrP' g, .int .u8 v] w (PutP w g bv (bs ++ le 1 v)) := by
  have HH := Lib.hid H
  clear H
  go_enter Try.func59, Try.ntmps59
  go_upto_region 1 with (fail)
  obtain ⟨W2, hW⟩ : ∃ W2, W2 = (w.alloc (.cells #[wrP' g] 86)).alloc (.cells #[.int .u8 v] 5) := ⟨_, rfl⟩
  obtain ⟨B, hB⟩ : ∃ B, B = w.heap.size := ⟨_, rfl⟩
  have k0 : W2.cell? ⟨B, 0, none⟩ = some (wrP' g) := by rw [hW, hB]; exact ((Blk.new _ _ _).alloc _).cell 0
  have k1 : W2.cell? ⟨B + 1, 0, none⟩ = some (.int .u8 v) := by
    rw [hW, hB]
    simp
  have cb : Below w.heap.size w W2 := by rw [hW]; exact belowA (belowA (Below.refl _ _) _) _
  rw [← hW, ← hB]
  have CB := Lib.hid cb
  have DD := Lib.hid (does_any (HH.out.kept cb) 81 #[.pointer (some ⟨B, 0, none⟩), .pointer (some ⟨B + 1, 0, none⟩)] (enters_of Try.func81 (by kernel_rfl) rfl) (byteC (HH.out.kept cb) B (B + 1) v k0 k1 v0 v1 hl))
  clear hW cb hB k1 HH
  go_wp2_with fail
  refine DD.out.mono ?_
  rintro e w2 ⟨rfl, hp⟩
  have HP : Hid (PutP W2 g bv (bs ++ le 1 v) (.returned (.tuple #[])) w2) := Lib.hid ⟨rfl, hp⟩
  clear hp
  go_wp2_with fail
  go_end0
  exact PutP.after CB.out HP.out

end
end Go.Proofs.Ytkeikkkcmackeaa

namespace Go.Proofs.Ytkeikkkcmackeaa
open Go.RowKit Go.Shelf
set_option linter.unusedVariables false
set_option linter.unusedSimpArgs false
set_option maxRecDepth 100000
/-- Two pieces in a slice of two: one laid, one handed in. -/
def Row2 (B : Nat) (l : List Int) (x : Value) (v : Value) (w : World) : Prop := ∃ b pv, v = .slice (some ⟨b, 0, none⟩) 2 2 ∧ w.cell? ⟨b, 0, none⟩ = some pv ∧ w.cell? ⟨b, 1, none⟩ = some x ∧ SRow w B pv l
theorem Row2.kept {B : Nat} {l : List Int} {x v : Value} {w w' : World} (h : Row2 B l x v w) (k : Below w.heap.size w w') : Row2 B l x v w' := by
  obtain ⟨b, pv, e, hc, hd, hr⟩ := h
  exact ⟨b, pv, e, keepC k hc, keepC k hd, hr.below k⟩
theorem Row2.new {B : Nat} {l : List Int} {x pv : Value} {w : World} (h : SRow w B pv l) (t : TypeId) : Row2 B l x (.slice (some ⟨w.heap.size, 0, none⟩) 2 2) (w.alloc (.cells #[pv, x] t)) :=
  ⟨_, pv, rfl, (Blk.new _ _ _).cell 0, (Blk.new _ _ _).cell 1, h.below (belowA (Below.refl _ _) _)⟩
def pcY (g B : Nat) (x : Value) (n : Int) (l : List Int) : Nat → Value → List Value → World → Prop
  | 0, v, _, _ => v = wrP' g
  | 1, v, _, _ => v = x
  | 2, v, _, _ => v = .int .i64 n
  | 3, v, _, _ => v = .int .u32 n
  | 4, v, _, w => Laid B l v w
  | 5, v, _, _ => v = x
  | 6, v, _, w => Row2 B l x v w
  | _, _, _, _ => True
theorem pcY_mono {g B : Nat} {x : Value} {n : Int} {l : List Int} (i : Nat) (v : Value) (q : List Value) (w w' : World) (h : pcY g B x n l i v q w) (k : evSv w w') : pcY g B x n l i v q w' := by
  match i, h with
  | 0, h => exact h
  | 1, h => exact h
  | 2, h => exact h
  | 3, h => exact h
  | 4, h => exact SRow.below h k
  | 5, h => exact h
  | 6, h => exact Row2.kept h k
  | i + 7, _ => exact True.intro
/-- put of two pieces. -/
theorem put_two {W w : World} {g : Nat} {bv : Value} {bs l m : List Int} (H : Wr W g bv bs) (hb : Below W.heap.size W w) {sv x : Value} (h : Row2 W.heap.size l x sv w) (hx : Pc W x m) (n : l ≠ []) (n8 : l.length ≤ 8) (nm : m.length ≤ 1000000) (hl : bs.length ≤ 1048576) :
    Calls Try.prog 80 #[wrP' g, sv] w (PutP W g bv (bs ++ (l ++ m))) := by
  obtain ⟨b, pv, rfl, hc, hd, hr⟩ := h
  have hf : [l, m].flatten = l ++ m := by simp
  have hp := List.length_pos_iff.mpr n
  have := put_any (H.kept hb) b 2 [pv, x] [l, m] rfl (by simp) (fun k q hk => by
      match k, hk with
      | 0, hk => simp at hk; subst hk; exact hc
      | 1, hk => simp at hk; subst hk; exact hd
      | k + 2, hk => simp at hk) (fun k q y hk hy => by
      match k, hk with
      | 0, hk => simp at hk hy; subst hk hy; exact hr.pc n
      | 1, hk => simp at hk hy; subst hk hy; exact hx.kept hb
      | k + 2, hk => simp at hk) (by rw [hf, List.length_append]; omega) (by rw [hf, List.length_append]; omega) hl
  rw [hf] at this
  refine this.mono ?_
  rintro e w' ⟨he, bv', h1, h2⟩
  exact ⟨he, bv', h1, (WStep.ofBelow hb g bv).trans h2⟩
section
variable {w : World} {g : Nat} {bv : Value} {bs m : List Int}
set_option maxHeartbeats 4000000 in
theorem bytesC (H : Wr w g bv bs) (b0 b1 : Nat) (x : Value) (hx : Pc w x m) (nm : m.length ≤ 1000000) (c0 : w.cell? ⟨b0, 0, none⟩ = some (wrP' g)) (c1 : w.cell? ⟨b1, 0, none⟩ = some x) (hl : bs.length ≤ 1048576) :
    Calls Try.prog 79 #[.pointer (some ⟨b0, 0, none⟩), .pointer (some ⟨b1, 0, none⟩)] w (PutP w g bv (bs ++ (le 4 m.length ++ m))) := by
  have HH := Lib.hid H
  have C0 := Lib.hid c0
  have C1 := Lib.hid c1
  have HX := Lib.hid hx
  obtain ⟨xg, xo, xc, hxe, _⟩ := hx
  subst hxe
  obtain ⟨n, hn⟩ : ∃ n, m.length = n := ⟨_, rfl⟩
  have WU : IntKind.u32.wrap (n : Int) = n := by simp [IntKind.wrap, IntKind.bits, IntKind.signed]; omega
  have NM := Lib.hid nm
  rw [hn] at C1 HX nm ⊢
  clear H c0 c1 hn
  go_enter Try.func79, Try.ntmps79
  go_upto_region 0 with (fail)
  refine wp_region_tail 7 _ rfl rfl rfl (by kernel_rfl) (by kernel_rfl) (by kernel_rfl) (C := fun w' => Below w.heap.size w w') (S := pcY g w.heap.size (.slice (some ⟨xg, xo, none⟩) n xc) n (le 4 n)) (Ev := evSv) pcY_mono ?_ ?_ ?_
  · exact belowD (Below.refl _ _)
  · simp only [List.take_succ_cons, List.take_zero, stepsOf]
    refine ⟨fun us w' hw hd => stepOf_plain rfl ?_, fun us w' hw hd => stepOf_plain rfl ?_, fun us w' hw hd => stepOf_plain rfl ?_, fun us w' hw hd => stepOf_plain rfl ?_, fun us w' hw hd => stepOf_plain rfl ?_, fun us w' hw hd => stepOf_plain rfl ?_, fun us w' hw hd => stepOf_plain rfl ?_, trivial⟩
    all_goals simp only [fill, List.filterMap_cons, List.filterMap_nil]
    · have c := keepC hw C0.out
      go_simp
      exact ⟨_, rfl, hw, rfl, Below.refl _ _⟩
    · have c := keepC hw C1.out
      go_simp
      exact ⟨_, rfl, hw, rfl, Below.refl _ _⟩
    · have h : us 3 = .slice (some ⟨xg, xo, none⟩) n xc := hd.1 rfl
      go_simp
      exact ⟨_, rfl, hw, rfl, Below.refl _ _⟩
    · have h : us 4 = .int .i64 n := hd.1 rfl
      go_simp
      exact ⟨_, rfl, hw, by first | rfl | (show Value.int _ _ = _; rw [WU]), Below.refl _ _⟩
    · have h : us 5 = .int .u32 n := hd.1 rfl
      go_simp
      refine (laid32_any n 4 _ (by omega) (by omega) (by omega)).mono ?_
      rintro e w2 ⟨pv, rfl, hr, hb⟩
      exact ⟨_, rfl, hw.trans (hb.mono hw.size), hr.weak hw.size, hb⟩
    · have c := keepC hw C1.out
      go_simp
      exact ⟨_, rfl, hw, rfl, Below.refl _ _⟩
    · have h : Laid w.heap.size (le 4 n) (us 6) w' := hd.1 rfl
      have h7 : us 7 = .slice (some ⟨xg, xo, none⟩) n xc := hd.2.1 rfl
      obtain ⟨x, hx⟩ : ∃ x, us 6 = x := ⟨_, rfl⟩
      rw [hx] at h
      obtain ⟨ao, c, rfl⟩ := SRow.slice h
      have HL := Lib.hid h
      clear h
      go_simp
      exact ⟨_, rfl, belowA hw _, Row2.new HL.out _, belowA (Below.refl _ _) _⟩
  · intro us w' hw ha
    simp only [fill, List.filterMap_cons, List.filterMap_nil]
    have h0 : us 2 = wrP' g := ha.1
    obtain ⟨x, hx⟩ : ∃ x, us 8 = x := ⟨_, rfl⟩
    have h3 : Row2 w.heap.size (le 4 n) (.slice (some ⟨xg, xo, none⟩) n xc) (us 8) w' := ha.2.2.2.2.2.2.1
    rw [hx] at h3
    have H3 := Lib.hid h3
    clear h3 ha
    go_simp
    refine (put_two HH.out hw H3.out HX.out (by simp [le]) (by rw [le_len]; omega) NM.out hl).mono ?_
    rintro e w2 ⟨rfl, hp⟩
    have HP := Lib.hid hp
    clear hp
    go_wp2_with fail
    go_end0
    exact ⟨rfl, HP.out⟩
set_option maxHeartbeats 4000000 in
theorem putBytes_any (H : Wr w g bv bs) (x : Value) (hx : Pc w x m) (nm : m.length ≤ 1000000) (hl : bs.length ≤ 1048576) :
    Calls Try.prog 58 #[wrP' g, x] w (PutP w g bv (bs ++ (le 4 m.length ++ m))) := by
  have HH := Lib.hid H
  have HX := Lib.hid hx
  obtain ⟨xg, xo, xc, hxe, _⟩ := hx
  subst hxe
  obtain ⟨n, hn⟩ : ∃ n, m.length = n := ⟨_, rfl⟩
  obtain ⟨F, hF⟩ : ∃ F, bs ++ (le 4 (m.length : Int) ++ m) = F := ⟨_, rfl⟩
  have HF := Lib.hid hF
  have NM := Lib.hid nm
  have HN := Lib.hid hn
  rw [hF]
  rw [hn] at HX ⊢
  clear H hn hF nm
  go_enter Try.func58, Try.ntmps58
  go_upto_region 1 with (fail)
  obtain ⟨W2, hW⟩ : ∃ W2, W2 = (w.alloc (.cells #[wrP' g] 86)).alloc (.cells #[.slice (some ⟨xg, xo, none⟩) n xc] 40) := ⟨_, rfl⟩
  obtain ⟨B, hB⟩ : ∃ B, B = w.heap.size := ⟨_, rfl⟩
  have k0 : W2.cell? ⟨B, 0, none⟩ = some (wrP' g) := by rw [hW, hB]; exact ((Blk.new _ _ _).alloc _).cell 0
  have k1 : W2.cell? ⟨B + 1, 0, none⟩ = some (.slice (some ⟨xg, xo, none⟩) n xc) := by
    rw [hW, hB]
    simp
  have cb : Below w.heap.size w W2 := by rw [hW]; exact belowA (belowA (Below.refl _ _) _) _
  rw [← hW, ← hB]
  have CB := Lib.hid cb
  have DD : Hid (Calls Try.prog 78 #[wrP' g, .func (.func 79) #[] #[.pointer (some ⟨B, 0, none⟩), .pointer (some ⟨B + 1, 0, none⟩)]] W2 (PutP W2 g bv F)) := Lib.hid (by
    rw [← HF.out]
    exact does_any (HH.out.kept cb) 79 #[.pointer (some ⟨B, 0, none⟩), .pointer (some ⟨B + 1, 0, none⟩)] (enters_of Try.func79 (by kernel_rfl) rfl) (bytesC (HH.out.kept cb) B (B + 1) _ (HX.out.kept cb) NM.out k0 k1 hl))
  clear hW cb hB k1 HH HX HF
  go_wp2_with fail
  refine DD.out.mono ?_
  rintro e w2 ⟨rfl, hp⟩
  have HP : Hid (PutP W2 g bv F (.returned (.tuple #[])) w2) := Lib.hid ⟨rfl, hp⟩
  clear hp
  go_wp2_with fail
  go_end0
  exact PutP.after CB.out HP.out
end
end Go.Proofs.Ytkeikkkcmackeaa
