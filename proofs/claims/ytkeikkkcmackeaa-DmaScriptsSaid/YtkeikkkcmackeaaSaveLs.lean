/- save: what laid[uint32] lays. save: what laid[uint8] lays. -/
import Derived.Test.YtkeikkkcmackeaaSaveA
namespace Go.Proofs.Ytkeikkkcmackeaa
open Go.RowKit
set_option linter.unusedVariables false
set_option linter.unusedSimpArgs false
set_option maxRecDepth 100000
set_option maxHeartbeats 2000000 in
theorem laid32_any (v : Int) (n : Nat) (w : World) (v0 : 0 ≤ v) (v1 : v ≤ 4294967295) (n8 : n ≤ 8) :
    Calls Try.prog 76 #[.int .u32 v, .int .i64 n] w (fun e w' => ∃ bv, e = .returned bv ∧ SRow w' w.heap.size bv (le n v) ∧ Below w.heap.size w w') := by
  obtain ⟨i0, hi, hz0, hz1, hz2⟩ := info_parts saU8
  go_enter Try.func76, Try.ntmps76
  go_wp2_with fail
  go_loopw [5, 6, 10] (fun bv x i wr => ∃ (k : Nat) (y : Int) (done : List Int), k ≤ n ∧ i = .int .i64 k ∧ x = .int .u64 y ∧ 0 ≤ y ∧ y ≤ 18446744073709551615 ∧ done ++ le (n - k) y = le n v ∧ SRow wr w.heap.size bv done ∧ Below w.heap.size w wr) (fun _ _ i _ => n - (intOf i).toNat)
  case atStart => exact ⟨0, v, [], by omega, rfl, rfl, v0, by omega, rfl, SRow.nil _ _, Below.refl _ _⟩
  case round =>
    obtain ⟨k, y, done, hk, rfl, rfl, y0, y1, hd, row, bel⟩ := hrel
    have HD := Lib.hid hd
    have hlen : done.length = k := by
      have := congrArg List.length hd
      rw [List.length_append, le_len, le_len] at this
      omega
    have ROW := Lib.hid row
    have BEL := Lib.hid bel
    clear hd row bel
    by_cases hlt : k < n
    · have own := ROW.out.below (belowA (Below.refl wr.heap.size wr) (.cells #[.int .u8 (y % 256)] 5))
      unfold SRow at own
      have hsz := BEL.out.size
      go_wp2_with (first
        | (at_builtin; refine wpList_append_own_at _ rfl _ _ 40 rfl w.heap.size 5 i0 (.int .u8 0) 1 1 Try.underlying40 hi hz0 hz1 hz2 rfl (by decide) _ _ _ rfl own ⟨wr.heap.size, 0, none⟩ 1 1 [.int .u8 (y % 256)] rfl rfl (cell_one_new _ _ _) (fun x hx => by simp at hx; subst hx; rfl) (by unfold maxLen; omega) (by omega) (by simp; omega) ?_; intro v1 w1 own1 hg1 hnil1 hat1))
      have R1 := Lib.hid (SRow.push own1)
      have B1 := Lib.hid ((belowA BEL.out (.cells #[.int .u8 (y % 256)] 5)).grown hg1 (by simp; omega) (fun k e => own_base' own e))
      clear own own1 hg1 hnil1 hat1
      go_roundw
      case rel => exact ⟨k + 1, y / 256, _, by omega, by go_num, rfl, by omega, by omega, le_next hlt HD.out, R1.out, B1.out⟩
      case measure => simp [intOf]; omega
    · have hkn : k = n := by omega
      subst hkn
      have e : done = le k v := by
        have := HD.out
        rwa [Nat.sub_self, show le 0 y = [] from rfl, List.append_nil] at this
      subst e
      go_wp2_with fail
      go_ret
      exact ⟨_, rfl, ROW.out, BEL.out⟩
end Go.Proofs.Ytkeikkkcmackeaa

namespace Go.Proofs.Ytkeikkkcmackeaa
open Go.RowKit
set_option linter.unusedVariables false
set_option linter.unusedSimpArgs false
set_option maxRecDepth 100000
set_option maxHeartbeats 2000000 in
theorem laid8_any (v : Int) (n : Nat) (w : World) (v0 : 0 ≤ v) (v1 : v ≤ 255) (n8 : n ≤ 8) :
    Calls Try.prog 82 #[.int .u8 v, .int .i64 n] w (fun e w' => ∃ bv, e = .returned bv ∧ SRow w' w.heap.size bv (le n v) ∧ Below w.heap.size w w') := by
  obtain ⟨i0, hi, hz0, hz1, hz2⟩ := info_parts saU8
  go_enter Try.func82, Try.ntmps82
  go_wp2_with fail
  go_loopw [5, 6, 10] (fun bv x i wr => ∃ (k : Nat) (y : Int) (done : List Int), k ≤ n ∧ i = .int .i64 k ∧ x = .int .u64 y ∧ 0 ≤ y ∧ y ≤ 18446744073709551615 ∧ done ++ le (n - k) y = le n v ∧ SRow wr w.heap.size bv done ∧ Below w.heap.size w wr) (fun _ _ i _ => n - (intOf i).toNat)
  case atStart => exact ⟨0, v, [], by omega, rfl, rfl, v0, by omega, rfl, SRow.nil _ _, Below.refl _ _⟩
  case round =>
    obtain ⟨k, y, done, hk, rfl, rfl, y0, y1, hd, row, bel⟩ := hrel
    have HD := Lib.hid hd
    have hlen : done.length = k := by
      have := congrArg List.length hd
      rw [List.length_append, le_len, le_len] at this
      omega
    have ROW := Lib.hid row
    have BEL := Lib.hid bel
    clear hd row bel
    by_cases hlt : k < n
    · have own := ROW.out.below (belowA (Below.refl wr.heap.size wr) (.cells #[.int .u8 (y % 256)] 5))
      unfold SRow at own
      have hsz := BEL.out.size
      go_wp2_with (first
        | (at_builtin; refine wpList_append_own_at _ rfl _ _ 40 rfl w.heap.size 5 i0 (.int .u8 0) 1 1 Try.underlying40 hi hz0 hz1 hz2 rfl (by decide) _ _ _ rfl own ⟨wr.heap.size, 0, none⟩ 1 1 [.int .u8 (y % 256)] rfl rfl (cell_one_new _ _ _) (fun x hx => by simp at hx; subst hx; rfl) (by unfold maxLen; omega) (by omega) (by simp; omega) ?_; intro v1 w1 own1 hg1 hnil1 hat1))
      have R1 := Lib.hid (SRow.push own1)
      have B1 := Lib.hid ((belowA BEL.out (.cells #[.int .u8 (y % 256)] 5)).grown hg1 (by simp; omega) (fun k e => own_base' own e))
      clear own own1 hg1 hnil1 hat1
      go_roundw
      case rel => exact ⟨k + 1, y / 256, _, by omega, by go_num, rfl, by omega, by omega, le_next hlt HD.out, R1.out, B1.out⟩
      case measure => simp [intOf]; omega
    · have hkn : k = n := by omega
      subst hkn
      have e : done = le k v := by
        have := HD.out
        rwa [Nat.sub_self, show le 0 y = [] from rfl, List.append_nil] at this
      subst e
      go_wp2_with fail
      go_ret
      exact ⟨_, rfl, ROW.out, BEL.out⟩
end Go.Proofs.Ytkeikkkcmackeaa
