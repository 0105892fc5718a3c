/- dma, the document's small functions. -/
import Derived.Test.YtkeikkkcmackeaaDmaKa
import Derived.Test.YtkeikkkcmackeaaDmaU
import Derived.Test.YtkeikkkcmackeaaDmaHs
import Derived.Deep.RegionHeld3
namespace Go.Proofs.Ytkeikkkcmackeaa
open Go.RowKit
set_option linter.unusedVariables false
set_option linter.unusedSimpArgs false
set_option maxRecDepth 100000
/-- What a method of the document's leaves. -/
def WroteR (W : World) (g : Nat) (f : Nat → Int) (v : Value) (e : Ending) (w' : World) : Prop := e = .returned v ∧ Ra w' g f ∧ Upd W g w'
theorem Ra.put1 {w : World} {g : Nat} {f : Nat → Int} (h : Ra w g f) {i : Nat} (hi : i < 104) (x : Int) : Ra (w.setCell ⟨g, i, none⟩ (.int .u8 x)) g (put1 f i x) := h.set hi x
theorem pow_rng (j : Nat) (hj : j < 8) : (0 : Int) < 2 ^ j ∧ (2 : Int) ^ j ≤ 128 := by
  have h : ∀ j : Fin 8, (0 : Int) < 2 ^ j.val ∧ (2 : Int) ^ j.val ≤ 128 := by decide
  exact h ⟨j, hj⟩
set_option maxHeartbeats 4000000 in
theorem dbit_eq (x : Int) (k : Nat) (hk : k ≤ 8) (w : World) (h0 : 0 ≤ x) (h1 : x ≤ 255) : Calls Try.prog 45 #[.int .u8 x, .int .i64 k] w (fun e w' => e = .returned (.bool (decide (bitN x k = 1))) ∧ w = w') := by
  go_enter Try.func45, Try.ntmps45
  go_wp2_with fail
  go_loopw [0, 5] (fun y i wr => ∃ j : Nat, j ≤ k ∧ i = .int .i64 j ∧ y = .int .u8 (x / 2 ^ j) ∧ wr = w) (fun _ i _ => k - (intOf i).toNat)
  case atStart => exact ⟨0, by omega, rfl, by simp, by first | rfl | trivial⟩
  case round =>
    obtain ⟨j, hj, rfl, rfl, rfl⟩ := hrel
    obtain ⟨y, hy⟩ : ∃ y, x / 2 ^ j = y := ⟨_, rfl⟩
    have y0 : 0 ≤ y := by rw [← hy]; exact Int.ediv_nonneg h0 (Int.pow_nonneg (by omega))
    have y1 : y ≤ 255 := by rw [← hy]; exact Int.le_trans (Int.ediv_le_self _ h0) h1
    have YN : Hid (x / 2 ^ (j + 1) = y / 2) := Lib.hid (by rw [← hy, Int.pow_succ, Int.ediv_ediv_of_nonneg (Int.pow_nonneg (by omega))])
    have HY := Lib.hid hy
    rw [hy]
    clear hy
    by_cases hlt : j < k
    · go_wp2_with fail
      go_roundw
      case rel => exact ⟨j + 1, by omega, by go_num, by first | (rw [YN.out]; done) | (rw [YN.out]; trivial), by first | rfl | trivial⟩
      case measure => simp [intOf]; omega
    · have hjk : j = k := by omega
      subst hjk
      have E : Hid (bitN x j = y % 2) := Lib.hid (by unfold bitN; rw [HY.out])
      clear HY YN
      go_wp2_with fail
      go_ret
      exact ⟨by simp [BEq.beq, E.out], rfl⟩
set_option maxHeartbeats 4000000 in
theorem dwith_eq (x : Int) (k : Nat) (hk : k < 8) (is : Bool) (w : World) (x0 : 0 ≤ x) (x1 : x ≤ 255) :
    Calls Try.prog 44 #[.int .u8 x, .int .i64 k, .bool is] w (fun e w' => e = .returned (.int .u8 (pt x (bitOf k) is)) ∧ w = w') := by
  have W0 := with_is x k hk false x0 x1
  have W1 := with_is x k hk true x0 x1
  have R0 := pt_rng' k hk false x0 x1
  have R1 := pt_rng' k hk true x0 x1
  have BI := Lib.hid (fun w' => dbit_eq x k (by omega) w' x0 x1)
  obtain ⟨p0, hp0⟩ : ∃ p, pt x (bitOf k) false = p := ⟨_, rfl⟩
  obtain ⟨p1, hp1⟩ : ∃ p, pt x (bitOf k) true = p := ⟨_, rfl⟩
  have HP0 := Lib.hid hp0
  have HP1 := Lib.hid hp1
  rw [hp0] at W0 R0
  rw [hp1] at W1 R1
  have yr := pow_rng k hk
  obtain ⟨y, hy⟩ : ∃ y : Int, 2 ^ k = y := ⟨_, rfl⟩
  rw [hy] at W0 W1 yr
  have HY := Lib.hid hy
  have FIN : Hid ((bitN x k = 1 → IntKind.u8.wrap (x - y) = p0) ∧ (bitN x k ≠ 1 → x = p0) ∧ IntKind.u8.wrap (p0 + y) = p1) := Lib.hid (by
    refine ⟨fun h => ?_, fun h => ?_, ?_⟩
    · rw [if_pos h] at W0; simp at W0; rw [IntKind.wrap_u8]; omega
    · rw [if_neg h] at W0; simp at W0; exact W0
    · by_cases h : bitN x k = 1
      · rw [if_pos h] at W0 W1; simp at W0 W1; rw [IntKind.wrap_u8]; omega
      · rw [if_neg h] at W0 W1; simp at W0 W1; rw [IntKind.wrap_u8]; omega)
  clear hp0 hp1 W0 W1 hy R0 R1
  go_enter Try.func44, Try.ntmps44
  go_wp2_with fail
  go_loopw [7, 8] (fun z i wr => ∃ j : Nat, j ≤ k ∧ i = .int .i64 j ∧ z = .int .u8 (2 ^ j) ∧ wr = w) (fun _ i _ => k - (intOf i).toNat)
  case atStart => exact ⟨0, by omega, rfl, by simp, by first | rfl | trivial⟩
  case round =>
    obtain ⟨j, hj, rfl, rfl, rfl⟩ := hrel
    by_cases hlt : j < k
    · have yj := pow_rng j (by omega)
      have yn := pow_rng (j + 1) (by omega)
      have es : (2 : Int) ^ (j + 1) = 2 ^ j * 2 := Int.pow_succ 2 j
      obtain ⟨z, hz⟩ : ∃ z : Int, 2 ^ j = z := ⟨_, rfl⟩
      rw [hz] at yj es
      rw [hz]
      have ew : IntKind.u8.wrap (z * 2) = z * 2 := by rw [IntKind.wrap_u8]; omega
      have ES := Lib.hid es
      clear es hz yn
      go_wp2_with fail
      go_roundw
      case rel => exact ⟨j + 1, by omega, by go_num, by first | (rw [ES.out]; done) | (rw [ES.out]; trivial), by first | rfl | trivial⟩
      case measure => simp [intOf]; omega
    · have hjk : j = k := by omega
      subst hjk
      rw [HY.out]
      obtain ⟨F0, F1, F2⟩ := FIN.out
      by_cases hb : bitN x j = 1
      · have e1 := F0 hb
        have BJ := BI
        rw [decide_eq_true hb] at BJ
        clear FIN F0 F1 BI hb
        cases is
        · go_wp2_with (go_at_call 45; refine (BJ.out _).mono ?_; rintro e w' ⟨rfl, rfl⟩)
          go_ret
          exact ⟨by rw [HP0.out]; rfl, by first | rfl | trivial⟩
        · go_wp2_with (go_at_call 45; refine (BJ.out _).mono ?_; rintro e w' ⟨rfl, rfl⟩)
          go_ret
          exact ⟨by rw [HP1.out]; rfl, by first | rfl | trivial⟩
      · have e1 := F1 hb
        have BJ := BI
        rw [decide_eq_false hb] at BJ
        have E1 := Lib.hid e1
        have F3 : IntKind.u8.wrap (x + y) = p1 := by rw [e1]; exact F2
        clear FIN F0 F1 F2 BI hb e1
        cases is
        · go_wp2_with (go_at_call 45; refine (BJ.out _).mono ?_; rintro e w' ⟨rfl, rfl⟩)
          go_ret
          exact ⟨by rw [HP0.out, ← E1.out]; rfl, by first | rfl | trivial⟩
        · go_wp2_with (go_at_call 45; refine (BJ.out _).mono ?_; rintro e w' ⟨rfl, rfl⟩)
          go_ret
          exact ⟨by rw [HP1.out]; rfl, by first | rfl | trivial⟩
theorem dwith_any (x : Int) (k : Nat) (hk : k < 8) (is : Bool) (w : World) (x0 : 0 ≤ x) (x1 : x ≤ 255) :
    Calls Try.prog 44 #[.int .u8 x, .int .i64 k, .bool is] w (Says w (.int .u8 (pt x (bitOf k) is))) := (dwith_eq x k hk is w x0 x1).mono (by rintro e w' ⟨rfl, rfl⟩; exact ⟨rfl, Below.refl _ _⟩)
section
variable {w : World} {B : Nat} {f : Nat → Int}
set_option maxHeartbeats 2000000 in
theorem dset_any (A : Ra w B f) (c k : Nat) (hc : c < 8) (hk : k + 1 < 12) (x : Int) (x0 : -65536 ≤ x) (x1 : x ≤ 131072) :
    Calls Try.prog 57 #[at_ B 0, .int .i64 c, .int .i64 k, .int .i64 x] w (WroteR w B (put2 f (c * 12 + k) (x % 65536)) (.tuple #[])) := by
  have f1 := A.frozen (c * 12 + k)
  have f2 := A.frozen (c * 12 + k + 1)
  have c1 := A.cell (j := c * 12 + k) (by omega)
  have c2 := A.cell (j := c * 12 + k + 1) (by omega)
  have wa : IntKind.i64.wrap (x + 65536) = x + 65536 := by rw [IntKind.wrap_i64]; omega
  have em : (x + 65536).tmod 65536 = x % 65536 := by rw [Int.tmod_eq_emod_of_nonneg (by omega)]; omega
  obtain ⟨z, hz⟩ : ∃ z, x % 65536 = z := ⟨_, rfl⟩
  have z0 : 0 ≤ z := by omega
  have z1 : z ≤ 65535 := by omega
  rw [hz] at em ⊢
  have e1 : z.tmod 256 = z % 256 := Int.tmod_eq_emod_of_nonneg z0
  have e2 : z.tdiv 256 = z / 256 := Int.tdiv_eq_ediv_of_nonneg z0
  have w1 : IntKind.u8.wrap (z % 256) = z % 256 := by rw [IntKind.wrap_u8]; omega
  have w2 : IntKind.u8.wrap (z / 256) = z / 256 := by rw [IntKind.wrap_u8]; omega
  have w3 : z % 256 % 256 = z % 256 := by omega
  have w4 : z / 256 % 256 = z / 256 := by omega
  have A2 : Hid (Ra ((w.setCell ⟨B, c * 12 + k, none⟩ (.int .u8 (z % 256))).setCell ⟨B, c * 12 + k + 1, none⟩ (.int .u8 (z / 256))) B (put2 f (c * 12 + k) z)) := Lib.hid ((A.put1 (by omega) _).put1 (by omega) _)
  have zc : (c : Int) < 8 := by omega
  have zk : (k : Int) < 12 := by omega
  have zk1 : (k : Int) + 1 < 12 := by omega
  have wk : IntKind.i64.wrap ((k : Int) + 1) = (k : Int) + 1 := by rw [IntKind.wrap_i64]; omega
  have n1 : ((k : Int) + 1).toNat = k + 1 := by omega
  have n2 : c * 12 + (k + 1) = c * 12 + k + 1 := by omega
  clear A hz x0 x1
  go_enter Try.func57, Try.ntmps57
  go_wp2_with fail
  go_end0
  first
    | exact ⟨rfl, A2.out, ((Upd.refl _ _).set _ _).set _ _⟩
    | trace_state
set_option maxHeartbeats 2000000 in
theorem dword_any (A : Ra w B f) (R : Rng f) (c k : Nat) (hc : c < 8) (hk : k + 1 < 12) :
    Calls Try.prog 52 #[at_ B 0, .int .i64 c, .int .i64 k] w (Says w (.int .i64 (wordOf f (c * 12 + k)))) := by
  have c1 := A.cell (j := c * 12 + k) (by omega)
  have c2 := A.cell (j := c * 12 + k + 1) (by omega)
  have r1 := R (c * 12 + k)
  have r2 := R (c * 12 + k + 1)
  have hw : wordOf f (c * 12 + k) = f (c * 12 + k) + 256 * f (c * 12 + k + 1) := by unfold wordOf; omega
  rw [hw]
  obtain ⟨x, hx⟩ : ∃ x, f (c * 12 + k) = x := ⟨_, rfl⟩
  obtain ⟨y, hy⟩ : ∃ x, f (c * 12 + k + 1) = x := ⟨_, rfl⟩
  rw [hx] at c1 r1 ⊢
  rw [hy] at c2 r2 ⊢
  have w1 : IntKind.i64.wrap x = x := by rw [IntKind.wrap_i64]; omega
  have w2 : IntKind.i64.wrap y = y := by rw [IntKind.wrap_i64]; omega
  have w3 : IntKind.i64.wrap (256 * y) = 256 * y := by rw [IntKind.wrap_i64]; omega
  have w4 : IntKind.i64.wrap (x + 256 * y) = x + 256 * y := by rw [IntKind.wrap_i64]; omega
  have zc : (c : Int) < 8 := by omega
  have zk : (k : Int) < 12 := by omega
  have zk1 : (k : Int) + 1 < 12 := by omega
  have wk : IntKind.i64.wrap ((k : Int) + 1) = (k : Int) + 1 := by rw [IntKind.wrap_i64]; omega
  have n1 : ((k : Int) + 1).toNat = k + 1 := by omega
  have n2 : c * 12 + (k + 1) = c * 12 + k + 1 := by omega
  clear A R hw hx hy
  go_enter Try.func52, Try.ntmps52
  go_wp2_with fail
  go_quiet (fail)
  go_wp2_with fail
  go_ret
  exact ⟨by first | rfl | trace_state, belowN (Below.refl _ _) _⟩
set_option maxHeartbeats 2000000 in
theorem dindirect_any (A : Ra w B f) (R : Rng f) (c : Nat) (hc : c < 8) :
    Calls Try.prog 53 #[at_ B 0, .int .i64 c] w (Says w (.bool (decide (bitN (f (c * 12)) 6 = 1)))) := by
  have c1 := A.cell (j := c * 12) (by omega)
  have BI := Lib.hid (fun w' => bit_any (f (c * 12)) 6 (by omega) w' (R _).1 (R _).2)
  have zc : (c : Int) < 8 := by omega
  clear A R
  go_enter Try.func53, Try.ntmps53
  go_wp2_with (go_at_call 45; refine (BI.out _).mono ?_; rintro e w' ⟨rfl, hb'⟩)
  go_ret
  exact ⟨rfl, by assumption⟩
theorem kind_is (m : Int) (m0 : 0 ≤ m) (m1 : m ≤ 255) : kindOf m = if bitN m 7 = 1 then 3 else 2 := byte_fact (P := fun m => kindOf m = if bitN m 7 = 1 then 3 else 2) (by decide +kernel) m m0 m1
set_option maxHeartbeats 2000000 in
theorem dway_any (A : Ra w B f) (R : Rng f) (c : Nat) (hc : c < 8) :
    Calls Try.prog 54 #[at_ B 0, .int .i64 c] w (Says w (.int .u8 (kindOf (f (c * 12))))) := by
  have c1 := A.cell (j := c * 12) (by omega)
  rw [kind_is _ (R _).1 (R _).2]
  have BI := Lib.hid (fun w' => bit_any (f (c * 12)) 7 (by omega) w' (R _).1 (R _).2)
  have zc : (c : Int) < 8 := by omega
  by_cases h : bitN (f (c * 12)) 7 = 1
  · rw [if_pos h]
    rw [decide_eq_true h] at BI
    clear A R h
    go_enter Try.func54, Try.ntmps54
    go_wp2_with (go_at_call 45; refine (BI.out _).mono ?_; rintro e w' ⟨rfl, hb'⟩)
    go_ret
    exact ⟨rfl, by assumption⟩
  · rw [if_neg h]
    rw [decide_eq_false h] at BI
    clear A R h
    go_enter Try.func54, Try.ntmps54
    go_wp2_with (go_at_call 45; refine (BI.out _).mono ?_; rintro e w' ⟨rfl, hb'⟩)
    go_ret
    exact ⟨rfl, by assumption⟩
/-- A pattern. -/
def patS (m : Int) : ByteArray := if m % 8 = 0 then ⟨#[48]⟩ else if m % 8 = 1 then ⟨#[48, 49]⟩ else if m % 8 = 2 then ⟨#[48, 48]⟩ else if m % 8 = 6 then ⟨#[48, 48]⟩ else if m % 8 = 3 then ⟨#[48, 48, 49, 49]⟩ else if m % 8 = 7 then ⟨#[48, 48, 49, 49]⟩ else if m % 8 = 4 then ⟨#[48, 49, 50, 51]⟩ else ⟨#[48, 49, 48, 49]⟩
theorem patS_size (m : Int) (m0 : 0 ≤ m) (m1 : m ≤ 255) : ((patS m).size : Int) = lenOf m := byte_fact (P := fun m => ((patS m).size : Int) = lenOf m) (by decide +kernel) m m0 m1
theorem patS_mod (m : Int) : patS (m % 8) = patS m := by unfold patS; rw [Int.emod_emod_of_dvd m (by decide : (8:Int) ∣ 8)]
theorem patS_at (m n : Int) (m0 : 0 ≤ m) (m1 : m ≤ 255) (n0 : 0 ≤ n) (n1 : n ≤ 255) : ((((patS m)[(n % lenOf m).toNat]?).getD 0).toNat : Int) = 48 + patOf m n := by
  have h : ∀ a : Fin 8, ∀ b : Fin 4, ((((patS a.val)[((b.val : Int) % lenOf a.val).toNat]?).getD 0).toNat : Int) = 48 + patOf a.val b.val := by decide +kernel
  have := h ⟨(m % 8).toNat, by omega⟩ ⟨(n % 4).toNat, by omega⟩
  simp only [] at this
  rw [Int.toNat_of_nonneg (by omega), Int.toNat_of_nonneg (by omega), patS_mod, patOf_mod, lenOf_mod] at this
  have e : n % 4 % lenOf m = n % lenOf m := by
    unfold lenOf; split
    · omega
    · split <;> omega
  rw [e] at this
  exact this
set_option maxHeartbeats 2000000 in
theorem dPattern_any (A : Ra w B f) (R : Rng f) (c : Nat) (hc : c < 8) :
    Calls Try.prog 77 #[at_ B 0, .int .i64 c] w (Says w (.string (patS (f (c * 12))))) := by
  have c1 := A.cell (j := c * 12) (by omega)
  have r1 := R (c * 12)
  have zc : (c : Int) < 8 := by omega
  obtain ⟨m, hm⟩ : ∃ m, f (c * 12) = m := ⟨_, rfl⟩
  rw [hm] at c1 r1 ⊢
  have em : m.tmod 8 = m % 8 := Int.tmod_eq_emod_of_nonneg r1.1
  have w1 : IntKind.u8.wrap (m % 8) = m % 8 := by rw [IntKind.wrap_u8]; omega
  have hq : ∃ q, m % 8 = q := ⟨_, rfl⟩
  obtain ⟨q, hq⟩ := hq
  have hS : patS m = patS q := by rw [← hq, patS_mod]
  rw [hS]
  rw [hq] at em w1
  have q8 : q = 0 ∨ q = 1 ∨ q = 2 ∨ q = 3 ∨ q = 4 ∨ q = 5 ∨ q = 6 ∨ q = 7 := by omega
  clear A R hm hq hS r1
  rcases q8 with rfl | rfl | rfl | rfl | rfl | rfl | rfl | rfl
  all_goals
    go_enter Try.func77, Try.ntmps77
    go_wp2_with fail
    go_ret
    exact ⟨rfl, Below.refl _ _⟩
set_option maxHeartbeats 2000000 in
theorem dport_any (A : Ra w B f) (R : Rng f) (c : Nat) (hc : c < 8) (n : Int) (n0 : 0 ≤ n) (n1 : n ≤ 255) :
    Calls Try.prog 55 #[at_ B 0, .int .i64 c, .int .u8 n] w (Says w (.int .u8 ((f (c * 12 + 1) + patOf (f (c * 12)) n) % 256))) := by
  have r0 := R (c * 12)
  have r1 := R (c * 12 + 1)
  have PA := Lib.hid (dPattern_any A R c hc)
  have zc : (c : Int) < 8 := by omega
  have sz := patS_size (f (c * 12)) r0.1 r0.2
  have sa := patS_at (f (c * 12)) n r0.1 r0.2 n0 n1
  have pr := patOf_rng (f (c * 12)) n
  have lr := lenOf_rng (f (c * 12))
  have K1 : Hid (∀ w', Below w.heap.size w w' → w'.cell? ⟨B, c * 12 + 1, none⟩ = some (.int .u8 (f (c * 12 + 1)))) := Lib.hid (fun w' hb => keepC hb (A.cell (j := c * 12 + 1) (by omega)))
  obtain ⟨t, ht⟩ : ∃ t, f (c * 12 + 1) = t := ⟨_, rfl⟩
  obtain ⟨p, hp⟩ : ∃ p, patOf (f (c * 12)) n = p := ⟨_, rfl⟩
  obtain ⟨L, hL⟩ : ∃ L, lenOf (f (c * 12)) = L := ⟨_, rfl⟩
  obtain ⟨s, hs⟩ : ∃ s, patS (f (c * 12)) = s := ⟨_, rfl⟩
  rw [ht] at K1 r1 ⊢
  rw [hp] at sa pr ⊢
  rw [hL] at sz sa lr
  rw [hs] at PA sz sa
  have L0 : L ≠ 0 := by omega
  have em : n.tmod L = n % L := Int.tmod_eq_emod_of_nonneg n0
  have i0 : 0 ≤ n % L := Int.emod_nonneg _ L0
  have i1 : n % L < L := Int.emod_lt_of_pos _ (by omega)
  obtain ⟨i, hi⟩ : ∃ i, n % L = i := ⟨_, rfl⟩
  rw [hi] at em i0 i1 sa
  have wn : IntKind.i64.wrap n = n := by rw [IntKind.wrap_i64]; omega
  have wi : IntKind.i64.wrap i = i := by rw [IntKind.wrap_i64]; omega
  have hix : ∀ w' : World, (Instr.index 9 (.string s) (.int .i64 i)).run Try.prog w' = .ok (.int .u8 (48 + p)) w' := fun w' => by
    rw [run_index_string w' 9 s .i64 i Try.underlying9, dif_pos ⟨i0, by rw [sz]; exact i1⟩]
    have : i.toNat < s.size := by omega
    rw [← sa, ByteArray.getElem?_lt' _ _ this]
    rfl
  have w5 : IntKind.u8.wrap (IntKind.u8.wrap (t + (48 + p)) - 48) = (t + p) % 256 := by rw [IntKind.wrap_u8, IntKind.wrap_u8]; omega
  have HS5 : Hid (((t + (48 + p)) % 256 - 48) % 256 = (t + p) % 256) := Lib.hid (by omega)
  clear A R r0 ht hp hL hs hi sa w5
  go_enter Try.func55, Try.ntmps55
  go_wp2_with fail
  refine PA.out.mono ?_
  rintro e w1 ⟨rfl, b1⟩
  have c1 := K1.out w1 b1
  go_wp2_with fail
  go_quiet (fail)
  go_wp2_with fail
  go_ret
  exact ⟨congrArg (fun z => Ending.returned (.int .u8 z)) HS5.out, belowN b1 _⟩
end
end Go.Proofs.Ytkeikkkcmackeaa
