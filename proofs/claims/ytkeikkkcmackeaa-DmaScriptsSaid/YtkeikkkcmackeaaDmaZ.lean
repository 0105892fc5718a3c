/- dma: none does nothing. -/
import Derived.Test.YtkeikkkcmackeaaDmaEs
namespace Go.Proofs.Ytkeikkkcmackeaa
open Go.RowKit
set_option linter.unusedVariables false
set_option linter.unusedSimpArgs false
set_option maxRecDepth 100000
section
variable (w : World)
theorem nFrame : Calls Try.prog 18 #[.pointer none] w (Says w (.tuple #[])) := by
  go_enter Try.func18, Try.ntmps18
  go_wp2_with fail
  go_end0
  exact ⟨rfl, Below.refl _ _⟩
theorem nLine : Calls Try.prog 19 #[.pointer none] w (Says w (.tuple #[])) := by
  go_enter Try.func19, Try.ntmps19
  go_wp2_with fail
  go_end0
  exact ⟨rfl, Below.refl _ _⟩
theorem nDone (v : Int) : Calls Try.prog 14 #[.pointer none, .int .u8 v] w (Says w (.tuple #[])) := by
  go_enter Try.func14, Try.ntmps14
  go_wp2_with fail
  go_end0
  exact ⟨rfl, Below.refl _ _⟩
theorem nNext : Calls Try.prog 11 #[.pointer none] w (Says w (.tuple #[.agg #[.int .u8 0, .int .u32 0, .int .u8 0], .bool false])) := by
  go_enter Try.func11, Try.ntmps11
  go_upto_region 1 with (fail)
  obtain ⟨W1, hW⟩ : ∃ W1, W1 = w.alloc (.cells #[.int .u8 0, .int .u32 0, .int .u8 0] 30) := ⟨_, rfl⟩
  obtain ⟨B, hB⟩ : ∃ B, B = w.heap.size := ⟨_, rfl⟩
  have bt : Blk W1 B 30 #[.int .u8 0, .int .u32 0, .int .u8 0] := by rw [hW, hB]; exact Blk.new _ _ _
  have HB1 : Hid (Below w.heap.size w W1) := by rw [hW]; exact belowA (Below.refl _ _) _
  have hBw : Hid (w.heap.size ≤ B) := by rw [hB]; exact Nat.le_refl _
  rw [← hW, ← hB]
  have z0 := bt.cell 0
  have z1 := bt.cell 1
  have z2 := bt.cell 2
  have f0 := bt.frozen 0
  have f1 := bt.frozen 1
  have f2 := bt.frozen 2
  have BT := Lib.hid bt
  clear hW hB bt
  go_wp2_with fail
  exact bodyPost_ret (v := .tuple #[.agg #[.int .u8 0, .int .u32 0, .int .u8 0], .bool false]) (by simp [results, Try.results11, go_sem, z0, z1, z2]) rfl ⟨rfl, by first | exact HB1.out | exact belowS (belowS (belowS HB1.out hBw.out _) hBw.out _) hBw.out _⟩
theorem nRead (p : Int) : Calls Try.prog 15 #[.pointer none, .int .u16 p] w (Says w (.tuple #[.int .u8 0, .bool false])) := by
  go_enter Try.func15, Try.ntmps15
  go_wp2_with fail
  go_ret2
  exact ⟨rfl, Below.refl _ _⟩
theorem nWrite (p v : Int) : Calls Try.prog 10 #[.pointer none, .int .u16 p, .int .u8 v] w (Says w (.bool false)) := by
  go_enter Try.func10, Try.ntmps10
  go_wp2_with fail
  go_ret
  exact ⟨rfl, Below.refl _ _⟩
theorem nLoad (v : Value) : Calls Try.prog 32 #[.pointer none, v] w (Says w (.int .i64 1)) := by
  go_enter Try.func32, Try.ntmps32
  go_wp2_with fail
  go_ret
  exact ⟨rfl, Below.refl _ _⟩
end
end Go.Proofs.Ytkeikkkcmackeaa
