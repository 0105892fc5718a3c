/- dma, the document's Line. -/
import Derived.Test.YtkeikkkcmackeaaDmaMd
import Derived.Test.YtkeikkkcmackeaaDmaMf
import Derived.Test.YtkeikkkcmackeaaDmaHs
namespace Go.Proofs.Ytkeikkkcmackeaa
open Go.RowKit
set_option linter.unusedVariables false
set_option linter.unusedSimpArgs false
set_option maxRecDepth 100000
/-- Which tables go on: on the way. -/
def lnK (t e : Int) (k : Nat) (x : Int) : Prop := 0 ≤ x ∧ x ≤ 255 ∧ ∀ j, j < 8 → bitN x j = if j < k then (if bitN t j = 1 ∧ bitN e j ≠ 1 then 1 else 0) else 0
theorem lnK_step {t e x : Int} {k : Nat} (hk : k < 8) (h : lnK t e k x) : lnK t e (k + 1) (pt x (bitOf k) (decide (bitN t k = 1) && !decide (bitN e k = 1))) := by
  obtain ⟨x0, x1, hb⟩ := h
  have p := pt_rng' k hk (decide (bitN t k = 1) && !decide (bitN e k = 1)) x0 x1
  refine ⟨p.1, p.2, fun j hj => ?_⟩
  rw [bitN_pt k hk _ x0 x1 j hj]
  by_cases q : j = k
  · subst q
    have l1 : j < j + 1 := by omega
    simp only [l1, if_true]
    by_cases a : bitN t j = 1 <;> by_cases b : bitN e j = 1 <;> simp [a, b]
  · rw [if_neg q, hb j hj]
    by_cases l : j < k
    · have l1 : j < k + 1 := by omega
      simp only [l, l1, if_true]
    · have l1 : ¬ j < k + 1 := by omega
      simp only [l, l1, if_false]
theorem lnK_end {t e x : Int} (t0 : 0 ≤ t) (t1 : t ≤ 255) (e0 : 0 ≤ e) (e1 : e ≤ 255) (h : lnK t e 8 x) : x = bits .andNot .u8 t e :=
  andNot_steps t0 t1 e0 e1 h.1 h.2.1 fun k hk => by rw [h.2.2 k hk, if_pos hk]
section
variable {w : World} {B : Nat} {f r : Nat → Int}
set_option maxHeartbeats 2000000 in
theorem dline_busy (A : Ra w B f) (hw : f 101 ≠ 0) :
    Calls Try.prog 23 #[at_ B 0] w (WroteR w B f (.tuple #[])) := by
  have c101 := A.cell (j := 101) (by omega)
  have t : (f 101 == 0) = false := by simpa using hw
  obtain ⟨y, hy⟩ : ∃ y, f 101 = y := ⟨_, rfl⟩
  rw [hy] at c101 t
  have HA := Lib.hid A
  clear A hw hy
  go_enter Try.func23, Try.ntmps23
  go_wp2_with fail
  go_end0
  exact ⟨rfl, HA.out, Upd.refl _ _⟩
set_option maxHeartbeats 8000000 in
theorem dline_gen (A : Ra w B f) (R : Rng f) (hw : f 101 = 0) (H : Beg r (lineA (bits .andNot .u8 (f 98) (f 99)) f)) :
    Calls Try.prog 23 #[at_ B 0] w (WroteR w B r (.tuple #[])) := by
  have c101 := A.cell (j := 101) (by omega)
  rw [hw] at c101
  have f101 := A.frozen 101
  have a1 := Ra.put1 A (i := 101) (by omega) 2
  have f102 := a1.frozen 102
  have c102 := a1.cell (j := 102) (by omega)
  have a2 := Ra.put1 a1 (i := 102) (by omega) 0
  have r98 := R 98
  have r99 := R 99
  have h := u8_andNot_rng (f 98) (f 99) r98.1 r98.2 r99.1 r99.2
  have BG := Lib.hid (dbegin_gen (B := B) H ((R.put1 _ (by omega) (by omega)).put1 _ h.1 h.2))
  have E98 : ∀ x, put1 (put1 f 101 2) 102 x 98 = f 98 := fun x => by rw [put1_ne (by decide), put1_ne (by decide)]
  have E99 : ∀ x, put1 (put1 f 101 2) 102 x 99 = f 99 := fun x => by rw [put1_ne (by decide), put1_ne (by decide)]
  unfold lineA at BG
  have EN : Hid (∀ x, lnK (f 98) (f 99) 8 x → DBeg B (put1 (put1 f 101 2) 102 x) r) := Lib.hid (fun x hx => by
    rw [lnK_end r98.1 r98.2 r99.1 r99.2 hx]; exact BG.out)
  obtain ⟨fl, hfl⟩ : ∃ fl, put1 f 101 2 = fl := ⟨_, rfl⟩
  rw [hfl] at a2 E98 E99 EN c102
  obtain ⟨t, ht⟩ : ∃ t, f 98 = t := ⟨_, rfl⟩
  obtain ⟨e, he⟩ : ∃ t, f 99 = t := ⟨_, rfl⟩
  rw [ht] at E98 EN r98
  rw [he] at E99 EN r99
  have HE98 := Lib.hid E98
  have HE99 := Lib.hid E99
  have A2 := Lib.hid a2
  have BT := Lib.hid (fun k (hk : k < 8) w' => bit_any t k (by omega) w' r98.1 r98.2)
  have BE := Lib.hid (fun k (hk : k < 8) w' => bit_any e k (by omega) w' r99.1 r99.2)
  clear A R hw H a1 a2 h BG E98 E99 hfl ht he
  go_enter Try.func23, Try.ntmps23
  go_wp2_with fail
  go_loopw [2] (fun i wr => ∃ (k : Nat) (x : Int), k ≤ 8 ∧ i = .int .i64 k ∧ Ra wr B (put1 fl 102 x) ∧ Upd w B wr ∧ lnK t e k x) (fun i _ => 8 - (intOf i).toNat)
  case atStart =>
    exact ⟨0, 0, by omega, rfl, A2.out, ((Upd.refl _ _).set _ _).set _ _, by omega, by omega, fun j _ => by rw [if_neg (by omega)]; simp [bitN]⟩
  case round =>
    obtain ⟨k, x, hk, rfl, ra, ur, mk⟩ := hrel
    have RA := Lib.hid ra
    have UR := Lib.hid ur
    have MK := Lib.hid mk
    clear ra ur mk A2 c101 c102 f101 f102
    by_cases hlt : k < 8
    · have zk : (k : Int) < 8 := by omega
      go_upto_region 6 with (fail)
      have KC : ∀ w', Below wr.heap.size wr w' → w'.cell? ⟨B, 102, none⟩ = some (.int .u8 x) := fun w' hb => by
        have := keepC hb (RA.out.cell (j := 102) (by omega))
        rw [put1_at, if_pos rfl] at this; exact this
      have K8 : ∀ w', Below wr.heap.size wr w' → w'.cell? ⟨B, 98, none⟩ = some (.int .u8 t) := fun w' hb => by
        have := keepC hb (RA.out.cell (j := 98) (by omega))
        rw [HE98.out] at this; exact this
      have K9 : ∀ w', Below wr.heap.size wr w' → w'.cell? ⟨B, 99, none⟩ = some (.int .u8 e) := fun w' hb => by
        have := keepC hb (RA.out.cell (j := 99) (by omega))
        rw [HE99.out] at this; exact this
      have KF : ∀ w', Below wr.heap.size wr w' → w'.frozen? ⟨B, 102, none⟩ = false := fun w' hb => Arr.frozen (Arr.kept RA.out hb) 102
      have C1 := fun w' => BT.out k hlt w'
      by_cases hb : bitN t k = 1
      · rw [decide_eq_true hb] at C1
        obtain ⟨y, hy⟩ : ∃ y, pt x (bitOf k) (!decide (bitN e k = 1)) = y := ⟨_, rfl⟩
        have M9 : Hid (lnK t e (k + 1) y) := Lib.hid (by
          have := lnK_step hlt MK.out
          rw [decide_eq_true hb, Bool.true_and, hy] at this
          exact this)
        have C3 := fun w' => dwith_any x k hlt (!decide (bitN e k = 1)) w' MK.out.1 MK.out.2.1
        rw [hy] at C3
        refine lnT (B := B) (k := k) (x := x) (tt := t) (ee := e) (y := y) (b := decide (bitN e k = 1)) KC KF K8 K9 C1 (fun w2 => BE.out k hlt w2) C3 _ _ rfl rfl rfl _ ?_
        intro us w9 b9
        have A9 : Hid (Ra (w9.setCell ⟨B, 102, none⟩ (.int .u8 y)) B (put1 fl 102 y)) := Lib.hid (by
          have a := Ra.put1 (Arr.kept RA.out b9) (i := 102) (by omega) y
          have e : put1 (put1 fl 102 x) 102 y = put1 fl 102 y := by funext j; unfold put1; split <;> rfl
          rw [e] at a; exact a)
        have U9 := Lib.hid ((UR.out.trans (Upd.ofBelow b9 B)).set 102 (.int .u8 y))
        clear b9 C1 C3 KC KF K8 K9 MK RA UR hb hy
        rw [lnOps_dst]
        simp only [fill, List.contains_cons, List.contains_nil, Nat.zero_add, Nat.reduceAdd, Nat.reduceBEq, Bool.or_false, Bool.or_true, Bool.false_or, Bool.true_or, Bool.or_self, Bool.false_eq_true, if_true, if_false]
        go_wp2_with fail
        go_roundw
        case rel => exact ⟨k + 1, _, by omega, by go_num, A9.out, U9.out, M9.out⟩
        case measure => simp [intOf]; omega
      · rw [decide_eq_false hb] at C1
        obtain ⟨y, hy⟩ : ∃ y, pt x (bitOf k) false = y := ⟨_, rfl⟩
        have M9 : Hid (lnK t e (k + 1) y) := Lib.hid (by
          have := lnK_step hlt MK.out
          rw [decide_eq_false hb, Bool.false_and, hy] at this
          exact this)
        have C3 := fun w' => dwith_any x k hlt false w' MK.out.1 MK.out.2.1
        rw [hy] at C3
        refine lnF (B := B) (k := k) (x := x) (tt := t) (ee := e) (y := y) (b := false) KC KF K8 K9 C1 C3 _ _ rfl rfl rfl _ ?_
        intro us w9 b9
        have A9 : Hid (Ra (w9.setCell ⟨B, 102, none⟩ (.int .u8 y)) B (put1 fl 102 y)) := Lib.hid (by
          have a := Ra.put1 (Arr.kept RA.out b9) (i := 102) (by omega) y
          have e : put1 (put1 fl 102 x) 102 y = put1 fl 102 y := by funext j; unfold put1; split <;> rfl
          rw [e] at a; exact a)
        have U9 := Lib.hid ((UR.out.trans (Upd.ofBelow b9 B)).set 102 (.int .u8 y))
        clear b9 C1 C3 KC KF K8 K9 MK RA UR hb hy
        rw [lnOps_dst]
        simp only [fill, List.contains_cons, List.contains_nil, Nat.zero_add, Nat.reduceAdd, Nat.reduceBEq, Bool.or_false, Bool.or_true, Bool.false_or, Bool.true_or, Bool.or_self, Bool.false_eq_true, if_true, if_false]
        go_wp2_with fail
        go_roundw
        case rel => exact ⟨k + 1, _, by omega, by go_num, A9.out, U9.out, M9.out⟩
        case measure => simp [intOf]; omega
    · have hk8 : k = 8 := by omega
      subst hk8
      have BC := Lib.hid (EN.out x MK.out _ RA.out)
      go_wp2_with fail
      refine BC.out.mono ?_
      rintro e' w6 ⟨rfl, a6, u6⟩
      have A6 := Lib.hid a6
      have U6 := Lib.hid (UR.out.trans u6)
      clear a6 u6
      go_wp2_with fail
      go_end0
      exact ⟨rfl, A6.out, U6.out⟩
end
end Go.Proofs.Ytkeikkkcmackeaa
