/- A clock that is none: what each method says. -/
import Derived.Test.YtfigepnpegnhkaaChecked
import Derived.Test.YtfigepnpegnhkaaArr
import Derived.Test.YtfigepnpegnhkaaSeq
import Derived.Test.YtfigepnpegnhkaaKeep
import Derived.Test.YtfigepnpegnhkaaShelf
import Derived.Lib.Tables
namespace Go.Proofs.Ytfigepnpegnhkaa
open Go.RowKit
set_option linter.unusedVariables false
set_option linter.unusedSimpArgs false
set_option maxRecDepth 100000
/-- What a method of a result says, which writes nothing. -/
def Says (W : World) (v : Value) (e : Ending) (w' : World) : Prop := e = .returned v ∧ Below W.heap.size W w'
section
variable (w : World)
theorem nFind (i : Int) : Calls Try.prog 31 #[.pointer none, .int .i64 i] w (Says w (.tuple #[.pointer none, .int .i64 1])) := by
  go_enter Try.func31, Try.ntmps31
  go_wp2_with fail
  go_ret2
  exact ⟨rfl, Below.refl _ _⟩
theorem nScale (i : Int) : Calls Try.prog 16 #[.pointer none, .int .i64 i] w (Says w (.tuple #[.int .i64 0, .int .i64 1])) := by
  go_enter Try.func16, Try.ntmps16
  go_wp2_with fail
  refine (nFind _ i).mono ?_
  rintro e w1 ⟨rfl, b1⟩
  go_wp2_with fail
  go_ret2
  exact ⟨rfl, b1⟩
theorem nAt (i : Int) : Calls Try.prog 17 #[.pointer none, .int .i64 i] w (Says w (.tuple #[.int .i64 0, .int .i64 1])) := by
  go_enter Try.func17, Try.ntmps17
  go_wp2_with fail
  refine (nFind _ i).mono ?_
  rintro e w1 ⟨rfl, b1⟩
  go_wp2_with fail
  go_ret2
  exact ⟨rfl, b1⟩
theorem nAdd (i n : Int) : Calls Try.prog 14 #[.pointer none, .int .i64 i, .int .i64 n] w (Says w (.int .i64 1)) := by
  go_enter Try.func14, Try.ntmps14
  go_wp2_with fail
  refine (nFind _ i).mono ?_
  rintro e w1 ⟨rfl, b1⟩
  go_wp2_with fail
  go_ret
  exact ⟨rfl, b1⟩
theorem nLen : Calls Try.prog 19 #[.pointer none] w (Says w (.int .i64 0)) := by
  go_enter Try.func19, Try.ntmps19
  go_wp2_with fail
  go_ret
  exact ⟨rfl, Below.refl _ _⟩
theorem nNext : Calls Try.prog 12 #[.pointer none] w (Says w (.int .i64 (-1))) := by
  go_enter Try.func12, Try.ntmps12
  go_wp2_with fail
  go_ret
  exact ⟨rfl, Below.refl _ _⟩
theorem nNormalise : Calls Try.prog 20 #[.pointer none] w (Says w (.int .i64 0)) := by
  go_enter Try.func20, Try.ntmps20
  go_wp2_with fail
  go_ret
  exact ⟨rfl, Below.refl _ _⟩
theorem nTimes : Calls Try.prog 15 #[.pointer none] w (Says w (.slice none 0 0)) := by
  go_enter Try.func15, Try.ntmps15
  go_wp2_with fail
  go_ret
  exact ⟨rfl, Below.refl _ _⟩
theorem nSet (v : Value) : Calls Try.prog 11 #[.pointer none, v] w (Says w (.int .i64 1)) := by
  go_enter Try.func11, Try.ntmps11
  go_wp2_with fail
  go_ret
  exact ⟨rfl, Below.refl _ _⟩
set_option maxHeartbeats 2000000 in
theorem nRoom (i : Int) : Calls Try.prog 13 #[.pointer none, .int .i64 i] w (Says w (.tuple #[.int .i64 0, .int .i64 1])) := by
  go_enter Try.func13, Try.ntmps13
  go_upto_region 1 with (fail)
  obtain ⟨W1, hW⟩ : ∃ W1, W1 = (((w.alloc (.cells #[.pointer none] 24)).alloc (.cells #[.int .i64 i] 3)).alloc (.cells #[.int .i64 0] 3)).alloc (.cells #[.int .i64 0] 25) := ⟨_, rfl⟩
  obtain ⟨B, hB⟩ : ∃ B, B = w.heap.size := ⟨_, rfl⟩
  rw [← hW, ← hB]
  obtain ⟨B1, hB1⟩ : ∃ x, x = B + 1 := ⟨_, rfl⟩
  rw [← hB1]
  obtain ⟨B2, hB2⟩ : ∃ x, x = B1 + 1 := ⟨_, rfl⟩
  rw [← hB2]
  obtain ⟨B3, hB3⟩ : ∃ x, x = B2 + 1 := ⟨_, rfl⟩
  rw [← hB3]
  have x0 : W1.cell? ⟨B, 0, none⟩ = some (.pointer none) := by rw [hW, hB]; simp [go_sem]
  have x1 : W1.cell? ⟨B1, 0, none⟩ = some (.int .i64 i) := by rw [hW, hB1, hB]; simp [go_sem]
  have x2 : W1.cell? ⟨B2, 0, none⟩ = some (.int .i64 0) := by rw [hW, hB2, hB1, hB]; simp [go_sem]
  have x3 : W1.cell? ⟨B3, 0, none⟩ = some (.int .i64 0) := by rw [hW, hB3, hB2, hB1, hB]; simp [go_sem]
  have y2 : W1.frozen? ⟨B2, 0, none⟩ = false := by rw [hW, hB2, hB1, hB]; simp [go_sem]
  have y3 : W1.frozen? ⟨B3, 0, none⟩ = false := by rw [hW, hB3, hB2, hB1, hB]; simp [go_sem]
  have HB1 : Hid (Below w.heap.size w W1) := by rw [hW]; exact belowA (belowA (belowA (belowA (Below.refl _ _) _) _) _) _
  have hsz : W1.heap.size = B3 + 1 := by rw [hW, hB3, hB2, hB1, hB]; simp
  have hn : B2 ≠ B3 := by omega
  have h2 : w.heap.size ≤ B2 := by omega
  have h3 : w.heap.size ≤ B3 := by omega
  have HN := Lib.hid hn
  have HB2 := Lib.hid h2
  have HB3 := Lib.hid h3
  clear hW hB hB1 hB2 hn h2 h3
  go_wp2_with fail
  refine (nFind W1 i).mono ?_
  rintro e w1 ⟨rfl, b1⟩
  have z2 := keepC b1 x2
  have z3 := keepC b1 x3
  have q2 := World.block_lt_of_cell? _ _ z2
  have q3 := World.block_lt_of_cell? _ _ z3
  have u2 : w1.frozen? ⟨B2, 0, none⟩ = false := (b1.frozen (p := ⟨B2, 0, none⟩) (by show B2 < W1.heap.size; omega)).trans y2
  have u3 : w1.frozen? ⟨B3, 0, none⟩ = false := (b1.frozen (p := ⟨B3, 0, none⟩) (by show B3 < W1.heap.size; omega)).trans y3
  have HW1 := Lib.hid (HB1.out.trans (b1.mono HB1.out.size))
  simp only at q2 q3
  have r3 : (w1.setCell ⟨B2, 0, none⟩ (.int .i64 0)).cell? ⟨B3, 0, none⟩ = some (.int .i64 0) := keepSet z3 (Ne.symm HN.out)
  have r2 : (w1.setCell ⟨B2, 0, none⟩ (.int .i64 0)).cell? ⟨B2, 0, none⟩ = some (.int .i64 0) := World.cell?_setCell_same' _ _ _ (by rw [z2]; rfl)
  have s2 : ((w1.setCell ⟨B2, 0, none⟩ (.int .i64 0)).setCell ⟨B3, 0, none⟩ (.int .i64 1)).cell? ⟨B2, 0, none⟩ = some (.int .i64 0) := keepSet r2 HN.out
  have s3 : ((w1.setCell ⟨B2, 0, none⟩ (.int .i64 0)).setCell ⟨B3, 0, none⟩ (.int .i64 1)).cell? ⟨B3, 0, none⟩ = some (.int .i64 1) := World.cell?_setCell_same' _ _ _ (by rw [r3]; rfl)
  clear b1 x0 x1 x2 x3 y2 y3 hsz hB3
  go_wp2_with fail
  exact bodyPost_ret (v := .tuple #[.int .i64 0, .int .i64 1]) (by simp [results, Try.results13, go_sem, q2, q3, s2, s3]) rfl ⟨rfl, by repeat (first | exact HW1.out | (refine belowA ?_ _) | (refine belowS ?_ HB2.out _) | (refine belowS ?_ HB3.out _))⟩
theorem nOrder : Calls Try.prog 18 #[.pointer none] w fun e w' => e = .returned (.func (.func 33) #[] #[.pointer (some ⟨w.heap.size, 0, none⟩)]) ∧ w' = w.alloc (.cells #[.pointer none] 24) := by
  go_enter Try.func18, Try.ntmps18
  go_wp2_with fail
  go_ret
  exact ⟨rfl, rfl⟩
theorem nOrderList : Calls Try.prog 34 #[.pointer none] w (Says w (.slice none 0 0)) := by
  go_enter Try.func34, Try.ntmps34
  go_wp2_with fail
  refine (nLen w).mono ?_
  rintro e w1 ⟨rfl, b1⟩
  go_wp2_with fail
  refine wp_loop_rounds 1 ?_
  rw [rounds_succ]
  go_wp2_with fail
  refine (Try.slices_SortFunc_none (α := Nat) none 0 _ w1).mono ?_
  rintro e w2 ⟨rfl, rfl⟩
  go_wp2_with fail
  go_ret
  exact ⟨rfl, b1⟩
end
end Go.Proofs.Ytfigepnpegnhkaa
