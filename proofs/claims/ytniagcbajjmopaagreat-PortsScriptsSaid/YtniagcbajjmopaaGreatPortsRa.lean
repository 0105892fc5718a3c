/- ports, the document's unit: bit, low, high, divide, control. -/
import Derived.Test.YtniagcbajjmopaaGreatPortsY
import Derived.Test.YtniagcbajjmopaaGreatPortsU
import Derived.Test.YtniagcbajjmopaaGreatPortsP
namespace Go.Proofs.YtniagcbajjmopaaGreat
open Go.RowKit
set_option linter.unusedVariables false
set_option linter.unusedSimpArgs false
set_option maxRecDepth 100000
/-- The document's unit in block B. -/
abbrev Dp (w : World) (B : Nat) (s : Pt) : Prop := Blk w B 28 s.rs
def DW (W : World) (B : Nat) (s : Pt) (v : Value) (e : Ending) (w' : World) : Prop := e = .returned v ∧ Dp w' B s ∧ Upd W B w'
abbrev dpP (B : Nat) : Value := .pointer (some ⟨B, 0, none⟩)
set_option maxHeartbeats 1000000 in
theorem dbit_eq (x : Int) (k : Nat) (x0 : 0 ≤ x) (x1 : x ≤ 255) (hk : k ≤ 7) (w : World) :
    Calls Tryz.prog 37 #[.int .u8 x, .int .i64 k] w (fun e w' => e = .returned (.bool (decide (x / 2 ^ k % 2 = 1))) ∧ w = w') := by
  go_enter Tryz.func37, Tryz.ntmps37
  go_wp2_with fail
  go_loopw [0, 5] (fun y i wr => ∃ j : Nat, j ≤ k ∧ i = .int .i64 j ∧ y = .int .u8 (x / 2 ^ j) ∧ w = wr) (fun _ i _ => k - (intOf i).toNat)
  case atStart => exact ⟨0, by omega, rfl, by simp, by first | rfl | trivial⟩
  case round =>
    obtain ⟨j, hj, rfl, rfl, rfl⟩ := hrel
    have e1 : x / 2 ^ (j + 1) = x / 2 ^ j / 2 := by rw [Int.pow_succ, Int.ediv_ediv_of_nonneg (by exact Int.le_of_lt (Int.pow_pos (by decide)))]
    have b0 : 0 ≤ x / 2 ^ j := Int.ediv_nonneg x0 (Int.le_of_lt (Int.pow_pos (by decide)))
    have b1 : x / 2 ^ j ≤ x := Int.ediv_le_self _ x0
    obtain ⟨y, hy⟩ : ∃ y, x / 2 ^ j = y := ⟨_, rfl⟩
    rw [hy] at e1 b0 b1 ⊢
    have E1 := Lib.hid e1
    have HY := Lib.hid hy
    clear e1 hy
    by_cases hlt : j < k
    · have zj : (j : Int) < k := by omega
      go_wp2_with fail
      go_roundw
      case rel => exact ⟨j + 1, by omega, by go_num, by rw [E1.out], by first | rfl | trivial⟩
      case measure => simp [intOf]; omega
    · have hjk : k = j := by omega
      subst hjk
      have em : y.tmod 2 = y % 2 := Int.tmod_eq_emod_of_nonneg b0
      go_wp2_with fail
      go_ret
      exact ⟨by rw [HY.out]; first | rfl | (rw [em]; simp; done) | (simp [em]; done) | (rw [em]; congr 3), by first | rfl | trivial⟩
theorem dbit_any (x : Int) (k : Nat) (x0 : 0 ≤ x) (x1 : x ≤ 255) (hk : k ≤ 7) (w : World) :
    Calls Tryz.prog 37 #[.int .u8 x, .int .i64 k] w (Says w (.bool (decide (x / 2 ^ k % 2 = 1)))) := (dbit_eq x k x0 x1 hk w).mono (by
  rintro e w' ⟨rfl, rfl⟩
  exact ⟨rfl, Below.refl _ _⟩)
/-- The bits, by name. -/
theorem dbit0 (x : Int) (x0 : 0 ≤ x) (x1 : x ≤ 255) (w : World) : Calls Tryz.prog 37 #[.int .u8 x, .int .i64 0] w (fun e w' => e = .returned (.bool (decide (x % 2 = 1))) ∧ w = w') := by
  have := dbit_eq x 0 x0 x1 (by omega) w
  rwa [show x / 2 ^ 0 % 2 = x % 2 by simp] at this
theorem dbit4 (x : Int) (x0 : 0 ≤ x) (x1 : x ≤ 255) (w : World) : Calls Tryz.prog 37 #[.int .u8 x, .int .i64 4] w (fun e w' => e = .returned (.bool (decide (x / 16 % 2 = 1))) ∧ w = w') := dbit_eq x 4 x0 x1 (by omega) w
theorem dbit5 (x : Int) (x0 : 0 ≤ x) (x1 : x ≤ 255) (w : World) : Calls Tryz.prog 37 #[.int .u8 x, .int .i64 5] w (fun e w' => e = .returned (.bool (decide (x / 32 % 2 = 1))) ∧ w = w') := dbit_eq x 5 x0 x1 (by omega) w
theorem dbit7 (x : Int) (x0 : 0 ≤ x) (x1 : x ≤ 255) (w : World) : Calls Tryz.prog 37 #[.int .u8 x, .int .i64 7] w (fun e w' => e = .returned (.bool (decide (x / 128 % 2 = 1))) ∧ w = w') := dbit_eq x 7 x0 x1 (by omega) w
theorem dlow_any (x v : Int) (w : World) (x0 : 0 ≤ x) (x1 : x ≤ 65535) (v0 : 0 ≤ v) (v1 : v ≤ 255) :
    Calls Tryz.prog 39 #[.int .u16 x, .int .u8 v] w (fun e w' => e = .returned (.int .u16 (x / 256 * 256 + v)) ∧ w = w') := by
  have e1 : x.tdiv 256 = x / 256 := Int.tdiv_eq_ediv_of_nonneg x0
  have w1 : IntKind.u16.wrap (x / 256) = x / 256 := by rw [IntKind.wrap_u16]; omega
  have w2 : IntKind.u16.wrap (x / 256 * 256) = x / 256 * 256 := by rw [IntKind.wrap_u16]; omega
  have w3 : IntKind.u16.wrap v = v := by rw [IntKind.wrap_u16]; omega
  have w4 : IntKind.u16.wrap (x / 256 * 256 + v) = x / 256 * 256 + v := by rw [IntKind.wrap_u16]; omega
  go_enter Tryz.func39, Tryz.ntmps39
  go_wp2_with fail
  go_ret
  exact ⟨by first | rfl | simp [e1, w1, w2, w3, w4], by first | rfl | trivial⟩
theorem dhigh_any (x v : Int) (w : World) (x0 : 0 ≤ x) (x1 : x ≤ 65535) (v0 : 0 ≤ v) (v1 : v ≤ 255) :
    Calls Tryz.prog 40 #[.int .u16 x, .int .u8 v] w (fun e w' => e = .returned (.int .u16 (x % 256 + v * 256)) ∧ w = w') := by
  have e1 : x.tmod 256 = x % 256 := Int.tmod_eq_emod_of_nonneg x0
  have w3 : IntKind.u16.wrap v = v := by rw [IntKind.wrap_u16]; omega
  have w2 : IntKind.u16.wrap (v * 256) = v * 256 := by rw [IntKind.wrap_u16]; omega
  have w4 : IntKind.u16.wrap (x % 256 + v * 256) = x % 256 + v * 256 := by rw [IntKind.wrap_u16]; omega
  go_enter Tryz.func40, Tryz.ntmps40
  go_wp2_with fail
  go_ret
  exact ⟨by first | rfl | simp [e1, w2, w3, w4], by first | rfl | trivial⟩
section
variable {w : World} {B : Nat} {s : Pt}
set_option maxHeartbeats 2000000 in
theorem ddivide_any (K : Dp w B s) (F : Fit2 s) (v : Int) (v0 : 0 ≤ v) (v1 : v ≤ 255) :
    Calls Tryz.prog 41 #[dpP B, .int .u8 v] w (DW w B (wrP 16902 v s).2 (.tuple #[])) := by
  have c5 : w.cell? ⟨B, 5, none⟩ = some (.int .u16 s.dividend) := K.cell 5
  have c6 : w.cell? ⟨B, 6, none⟩ = some (.int .u16 s.quotient) := K.cell 6
  have c7 : w.cell? ⟨B, 7, none⟩ = some (.int .u16 s.product) := K.cell 7
  have g6 := K.frozen 6
  have g7 := K.frozen 7
  have HA := Lib.hid K
  have f0 := F.w0
  have f1 := F.w1
  have KE : Hid ((wrP 16902 v s).2 = { s with soon := 0, quotient := if v = 0 then 65535 else s.dividend / v, product := if v = 0 then s.dividend else s.dividend % v }) := Lib.hid rfl
  rw [KE.out]
  clear K F KE
  obtain ⟨n, hn⟩ : ∃ n, s.dividend = n := ⟨_, rfl⟩
  rw [hn] at c5 f0 f1 ⊢
  have HN := Lib.hid hn
  clear hn
  by_cases hv : v = 0
  · subst hv
    simp only [if_true]
    have a2 : Hid (Dp ((w.setCell ⟨B, 6, none⟩ (.int .u16 65535)).setCell ⟨B, 7, none⟩ (.int .u16 n)) B { s with dividend := n, quotient := 65535, product := n }) := Lib.hid (by rw [← HN.out]; exact (HA.out.set_ 6 _).set_ 7 _)
    have x5 : (w.setCell ⟨B, 6, none⟩ (.int .u16 65535)).cell? ⟨B, 5, none⟩ = some (.int .u16 n) := by rw [(HA.out.set_ 6 (.int .u16 65535)).cell 5]; show some (Value.int .u16 s.dividend) = _; rw [HN.out]
    go_enter Tryz.func41, Tryz.ntmps41
    go_wp2_with fail
    go_end0
    exact ⟨rfl, a2.out, ((Upd.refl _ _).set _ _).set _ _⟩
  · simp only [hv, if_false]
    have t : (v == 0) = false := by simpa using hv
    have a2 : Hid (Dp ((w.setCell ⟨B, 6, none⟩ (.int .u16 (n / v))).setCell ⟨B, 7, none⟩ (.int .u16 (n % v))) B { s with dividend := n, quotient := n / v, product := n % v }) := Lib.hid (by rw [← HN.out]; exact (HA.out.set_ 6 _).set_ 7 _)
    have vp : 0 < v := by omega
    have q0 : 0 ≤ n / v := Int.ediv_nonneg f0 v0
    have q1 : n / v ≤ n := Int.ediv_le_self v f0
    have e1 : IntKind.u16.wrap (n.tdiv v) = n / v := by rw [Int.tdiv_eq_ediv_of_nonneg f0, IntKind.wrap_u16]; omega
    have e2 : n.tmod v = n % v := Int.tmod_eq_emod_of_nonneg f0
    have E1 := Lib.hid e1
    have E2 := Lib.hid e2
    clear e1 e2 q0 q1
    have wv : IntKind.u16.wrap v = v := by rw [IntKind.wrap_u16]; omega
    have HH : Hid (∀ x, (w.setCell ⟨B, 6, none⟩ (.int .u16 x)).cell? ⟨B, 5, none⟩ = some (.int .u16 n)) := Lib.hid (fun x => by rw [(HA.out.set_ 6 (.int .u16 x)).cell 5]; show some (Value.int .u16 s.dividend) = _; rw [HN.out])
    go_enter Tryz.func41, Tryz.ntmps41
    go_wp2_with fail
    go_end0
    first | rw [E1.out, E2.out] | rw [E1.out] | rw [E2.out] | skip
    exact ⟨rfl, a2.out, ((Upd.refl _ _).set _ _).set _ _⟩
end
end Go.Proofs.YtniagcbajjmopaaGreat
