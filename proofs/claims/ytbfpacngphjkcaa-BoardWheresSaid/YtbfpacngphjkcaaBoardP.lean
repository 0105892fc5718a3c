/- 'plain': a board that is known to answer. -/
import Derived.Test.YtbfpacngphjkcaaBoardO
namespace Go.Proofs.Ytbfpacngphjkcaa
open Go.RowKit
set_option linter.unusedVariables false
set_option linter.unusedSimpArgs false

theorem place_1_2 : place 1 2 = 1 := place_in (by decide)
theorem sp1 : spotAt 1 2 2048 32769 = (1, 1) := by
  have h : (1 : Int) % 128 = 1 := by decide
  simp [spotAt, spot, loRam, loRom, place_1_2]
theorem sp2 : spotAt 1 2 2048 7340032 = (2, 0) := by simp [spotAt, spot, loRam, loRom]
theorem sp3 : spotAt 1 2 2048 0 = (0, 0) := by simp [spotAt, spot, loRam, loRom]
theorem sp4 : spotAt 1 2 2048 7342081 = (2, 1) := by simp [spotAt, spot, loRam, loRom]

set_option maxHeartbeats 1000000 in
theorem plain_true (w : World) : Calls Try.prog 21 #[] w fun e w' => e = .returned (.bool true) ∧ Below w.heap.size w w' := by
  go_enter Try.func21, Try.ntmps21
  try simp only [List.append_eq, List.cons_append, List.nil_append]
  go_wp2_with fail
  have A1 : Arr (w.alloc (.cells #[.int .u8 7, .int .u8 8] 5)) .u8 5 w.heap.size 2 (fun j => if j = 0 then 7 else 8) := by
    refine ⟨_, Blk.new _ _ _, by simp, fun j hj => ?_⟩
    rcases (by omega : j = 0 ∨ j = 1) with rfl | rfl <;> simp
  have k1 : Below w.heap.size w (w.alloc (.cells #[.int .u8 7, .int .u8 8] 5)) := belowA (Below.refl _ _) _
  refine (new_yes 1 2048 w.heap.size 2 2 _ _ A1 (by omega) (by omega) (by omega) (by omega) (by omega)).mono ?_
  rintro e w3 ⟨gb, gr, gm, ga, gc, cap, rfl, bd, hb⟩
  have HB := Lib.hid (belowStep k1 hb)
  have la := bd.la
  have hsz := k1.size
  have BD := Lib.hid bd
  clear A1 k1 hb bd
  go_wp2_with fail
  refine (read_any 32769 1 _ gb gr gm ga gc 2 cap 2048 _ _ _ BD.out (by omega) (by omega) (by omega) (by omega) (by omega)).mono ?_
  rw [sp1]
  rintro e w4 ⟨rfl, hb4⟩
  have BD4 := Lib.hid (BD.out.kept hb4)
  have HB4 := Lib.hid (belowStep HB.out hb4)
  clear hb4 BD HB
  have v1 : byteOf (fun j : Nat => if j = 0 then (7 : Int) else 8) (fun _ => 0) (1, 1) = 8 := by simp [byteOf]
  rw [v1]
  go_wp2_with fail
  refine (write_any 7340032 9 1 _ gb gr gm ga gc 2 cap 2048 _ _ _ BD4.out (by omega) (by omega) (by omega) (by omega) (by omega)).mono ?_
  unfold Wrote
  rw [sp2]
  rintro e w5 ⟨rfl, ha5, hu5⟩
  have BD5 := Lib.hid (BD4.out.upd hu5 ha5)
  have HB5 := Lib.hid (hu5.out HB4.out (by omega))
  clear ha5 hu5 BD4 HB4
  go_wp2_with fail
  refine (write_any 0 9 1 _ gb gr gm ga gc 2 cap 2048 _ _ _ BD5.out (by omega) (by omega) (by omega) (by omega) (by omega)).mono ?_
  unfold Wrote
  rw [sp3]
  rintro e w6 ⟨rfl, ha6, hu6⟩
  have BD6 := Lib.hid (BD5.out.upd hu6 ha6)
  have HB6 := Lib.hid (hu6.out HB5.out (by omega))
  clear ha6 hu6 BD5 HB5
  go_wp2_with fail
  refine (dec_any 7342081 1 gb gr gm ga gc 2 cap 2048 _ BD6.out.cells (by omega) (by omega) (by omega) (by omega) (by omega)).mono ?_
  rw [show spot 1 2 2048 (7342081 / 65536 % 256) (7342081 % 65536) = (2, 1) from sp4]
  rintro e w7 ⟨rfl, hb7⟩
  have HB7 := Lib.hid (belowStep HB6.out hb7)
  clear hb7 BD6 HB6
  go_wp2_with fail
  go_ret
  exact ⟨rfl, HB7.out⟩
end Go.Proofs.Ytbfpacngphjkcaa
