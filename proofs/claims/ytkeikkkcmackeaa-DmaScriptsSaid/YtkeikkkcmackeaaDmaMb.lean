/- dma, the document's Write: what begins moves. -/
import Derived.Test.YtkeikkkcmackeaaDmaMc
import Derived.Deep.CutRange
namespace Go.Proofs.Ytkeikkkcmackeaa
open Go.RowKit
set_option linter.unusedVariables false
set_option linter.unusedSimpArgs false
set_option maxRecDepth 100000
/-- Moves: on the way. -/
def mvK (m v : Int) (k : Nat) (x : Int) : Prop := 0 ≤ x ∧ x ≤ 255 ∧ ∀ j, j < 8 → bitN x j = if j < k then (if bitN m j = 1 ∨ bitN v j = 1 then 1 else 0) else bitN m j
theorem mvK_step {m v x : Int} {k : Nat} (hk : k < 8) (h : mvK m v k x) : mvK m v (k + 1) (pt x (bitOf k) (decide (bitN x k = 1) || decide (bitN v k = 1))) := by
  obtain ⟨x0, x1, hb⟩ := h
  have p := pt_rng' k hk (decide (bitN x k = 1) || decide (bitN v k = 1)) x0 x1
  refine ⟨p.1, p.2, fun j hj => ?_⟩
  rw [bitN_pt k hk _ x0 x1 j hj]
  have hxk := hb k hk
  rw [if_neg (by omega)] at hxk
  by_cases e : j = k
  · subst e
    have l1 : j < j + 1 := by omega
    simp only [l1, if_true, hxk]
    by_cases a : bitN m j = 1 <;> by_cases b : bitN v j = 1 <;> simp [a, b]
  · rw [if_neg e, hb j hj]
    by_cases l : j < k
    · have l1 : j < k + 1 := by omega
      simp only [l, l1, if_true]
    · have l1 : ¬ j < k + 1 := by omega
      simp only [l, l1, if_false]
theorem mvK_end {m v x : Int} (m0 : 0 ≤ m) (m1 : m ≤ 255) (v0 : 0 ≤ v) (v1 : v ≤ 255) (h : mvK m v 8 x) : x = bits .or .u8 m v :=
  or_steps m0 m1 v0 v1 h.1 h.2.1 fun k hk => by rw [h.2.2 k hk, if_pos hk]
section
variable {w : World} {B : Nat} {f : Nat → Int}
set_option maxHeartbeats 8000000 in
theorem dwrite_go (A : Ra w B f) (R : Rng f) (v : Int) (v0 : 0 ≤ v) (v1 : v ≤ 255) :
    Calls Try.prog 20 #[at_ B 0, .int .u16 16907, .int .u8 v] w (WroteR w B (wrF 16907 v f).2 (.bool true)) := by
  have hw : (wrF 16907 v f).2 = put1 (if f 96 = 0 then put1 f 97 0 else f) 96 (bits .or .u8 (f 96) v) := rfl
  rw [hw]
  have m0 := (R 96).1
  have m1 := (R 96).2
  have c96 := A.cell (j := 96) (by omega)
  have c97 := A.cell (j := 97) (by omega)
  have f97 := A.frozen 97
  obtain ⟨m, hm⟩ : ∃ m, f 96 = m := ⟨_, rfl⟩
  rw [hm] at m0 m1 c96 ⊢
  obtain ⟨fz, hfz⟩ : ∃ fz, (if m = 0 then put1 f 97 0 else f) = fz := ⟨_, rfl⟩
  rw [hfz]
  have z96 : fz 96 = m := by rw [← hfz]; split <;> (first | exact hm | (rw [put1_ne (by decide)]; exact hm))
  have HA := Lib.hid A
  have ST : Hid (∀ m', Ra m' B fz → mvK m v 0 (fz 96)) := Lib.hid (fun _ _ => by rw [z96]; exact ⟨m0, m1, fun j _ => by rw [if_neg (by omega)]⟩)
  have EN : Hid (∀ x, mvK m v 8 x → x = bits .or .u8 m v) := Lib.hid (fun x h => mvK_end m0 m1 v0 v1 h)
  have BV := Lib.hid (fun k (hk : k < 8) w' => bit_any v k (by omega) w' v0 v1)
  have Z96 := Lib.hid z96
  clear A R hw hm z96
  go_enter Try.func20, Try.ntmps20
  go_upto_if 16 with (fail)
  go_cut [16] from 11 to 19 (fun _ wx => Ra wx B fz ∧ Upd w B wx)
  case first =>
    by_cases h0 : m = 0
    · rw [if_pos h0] at hfz
      subst h0
      go_wp2_with fail
      go_meet
      case rel => exact ⟨by rw [← hfz]; exact Ra.put1 HA.out (by omega) _, (Upd.refl _ _).set _ _⟩
    · rw [if_neg h0] at hfz
      have t0 : (m == 0) = false := by simpa using h0
      go_wp2_with fail
      go_meet
      case rel => exact ⟨by rw [← hfz]; exact HA.out, Upd.refl _ _⟩
  obtain ⟨az, uz⟩ := hcut
  have AZ := Lib.hid az
  have UZ := Lib.hid uz
  clear az uz HA hfz c96 c97 f97
  go_wp2_with fail
  go_loopw [7] (fun i wr => ∃ (k : Nat) (x : Int), k ≤ 8 ∧ i = .int .i64 k ∧ Ra wr B (put1 fz 96 x) ∧ Upd w B wr ∧ mvK m v k x) (fun i _ => 8 - (intOf i).toNat)
  case atStart =>
    have e : put1 fz 96 (fz 96) = fz := by funext j; unfold put1; split <;> simp_all
    exact ⟨0, fz 96, by omega, rfl, by rw [e]; exact AZ.out, UZ.out, ST.out _ AZ.out⟩
  case round =>
    obtain ⟨k, x, hk, rfl, ra, ur, mk⟩ := hrel
    have RA := Lib.hid ra
    have UR := Lib.hid ur
    have MK := Lib.hid mk
    clear ra ur mk AZ UZ ST
    by_cases hlt : k < 8
    · have zk : (k : Int) < 8 := by omega
      go_upto_region 7 with (fail)
      have KC : ∀ w', Below wr.heap.size wr w' → w'.cell? ⟨B, 96, none⟩ = some (.int .u8 x) := fun w' hb => by
        have := keepC hb (RA.out.cell (j := 96) (by omega))
        rw [put1_at, if_pos rfl] at this; exact this
      have KF : ∀ w', Below wr.heap.size wr w' → w'.frozen? ⟨B, 96, none⟩ = false := fun w' hb => Arr.frozen (Arr.kept RA.out hb) 96
      have C1 := fun w' => bit_any x k (by omega) w' MK.out.1 MK.out.2.1
      by_cases hb : bitN x k = 1
      · rw [decide_eq_true hb] at C1
        obtain ⟨y, hy⟩ : ∃ y, pt x (bitOf k) true = y := ⟨_, rfl⟩
        have M9 : Hid (mvK m v (k + 1) y) := Lib.hid (by
          have := mvK_step hlt MK.out
          rw [decide_eq_true hb, Bool.true_or, hy] at this
          exact this)
        have C3 := fun w' => dwith_any x k hlt true w' MK.out.1 MK.out.2.1
        rw [hy] at C3
        refine goT (B := B) (k := k) (x := x) (vv := v) (y := y) (b := false) KC KF C1 C3 _ _ rfl rfl rfl rfl _ ?_
        intro us w9 b9
        have A9 : Hid (Ra (w9.setCell ⟨B, 96, none⟩ (.int .u8 y)) B (put1 fz 96 y)) := Lib.hid (by
          have a := Ra.put1 (Arr.kept RA.out b9) (i := 96) (by omega) y
          have e : put1 (put1 fz 96 x) 96 y = put1 fz 96 y := by funext j; unfold put1; split <;> rfl
          rw [e] at a; exact a)
        have U9 := Lib.hid ((UR.out.trans (Upd.ofBelow b9 B)).set 96 (.int .u8 y))
        clear b9 C1 C3 KC KF MK RA UR hb hy
        rw [goOps_dst]
        simp only [fill, List.contains_cons, List.contains_nil, Nat.zero_add, Nat.reduceAdd, Nat.reduceBEq, Bool.or_false, Bool.or_true, Bool.false_or, Bool.true_or, Bool.or_self, Bool.false_eq_true, if_true, if_false]
        go_wp2_with fail
        go_roundw
        case rel => exact ⟨k + 1, _, by omega, by go_num, A9.out, U9.out, M9.out⟩
        case measure => simp [intOf]; omega
      · rw [decide_eq_false hb] at C1
        obtain ⟨y, hy⟩ : ∃ y, pt x (bitOf k) (decide (bitN v k = 1)) = y := ⟨_, rfl⟩
        have M9 : Hid (mvK m v (k + 1) y) := Lib.hid (by
          have := mvK_step hlt MK.out
          rw [decide_eq_false hb, Bool.false_or, hy] at this
          exact this)
        have C3 := fun w' => dwith_any x k hlt (decide (bitN v k = 1)) w' MK.out.1 MK.out.2.1
        rw [hy] at C3
        refine goF (B := B) (k := k) (x := x) (vv := v) (y := y) (b := decide (bitN v k = 1)) KC KF C1 (fun w2 => BV.out k hlt w2) C3 _ _ rfl rfl rfl rfl _ ?_
        intro us w9 b9
        have A9 : Hid (Ra (w9.setCell ⟨B, 96, none⟩ (.int .u8 y)) B (put1 fz 96 y)) := Lib.hid (by
          have a := Ra.put1 (Arr.kept RA.out b9) (i := 96) (by omega) y
          have e : put1 (put1 fz 96 x) 96 y = put1 fz 96 y := by funext j; unfold put1; split <;> rfl
          rw [e] at a; exact a)
        have U9 := Lib.hid ((UR.out.trans (Upd.ofBelow b9 B)).set 96 (.int .u8 y))
        clear b9 C1 C3 KC KF MK RA UR hb hy
        rw [goOps_dst]
        simp only [fill, List.contains_cons, List.contains_nil, Nat.zero_add, Nat.reduceAdd, Nat.reduceBEq, Bool.or_false, Bool.or_true, Bool.false_or, Bool.true_or, Bool.or_self, Bool.false_eq_true, if_true, if_false]
        go_wp2_with fail
        go_roundw
        case rel => exact ⟨k + 1, _, by omega, by go_num, A9.out, U9.out, M9.out⟩
        case measure => simp [intOf]; omega
    · have hk8 : k = 8 := by omega
      subst hk8
      have EX := Lib.hid (EN.out x MK.out)
      go_wp2_with fail
      go_ret
      rw [← EX.out]
      exact ⟨rfl, RA.out, UR.out⟩
theorem dwrite_any (A : Ra w B f) (R : Rng f) (p v : Int) (p0 : 0 ≤ p) (p1 : p ≤ 65535) (v0 : 0 ≤ v) (v1 : v ≤ 255) :
    Calls Try.prog 20 #[at_ B 0, .int .u16 p, .int .u8 v] w (WroteR w B (wrF p v f).2 (.bool (wrF p v f).1)) := by
  by_cases h1 : p = 16907
  · subst h1
    exact dwrite_go A R v v0 v1
  by_cases h2 : p = 16908
  · subst h2
    exact dwrite_tab A v
  have e : wrF p v f = match plc p with | none => (false, f) | some i => (true, put1 f i v) := by unfold wrF; rw [if_neg h1, if_neg h2]; cases plc p <;> rfl
  rw [e]
  exact dwrite_byte A p v p0 p1 h1 h2
end
end Go.Proofs.Ytkeikkkcmackeaa
