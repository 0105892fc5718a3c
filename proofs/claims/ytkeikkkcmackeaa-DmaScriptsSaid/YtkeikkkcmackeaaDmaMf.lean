/- dma, the document's regions that draw and end in a store: each operation looked at once. -/
import Derived.Test.YtkeikkkcmackeaaDmaMc
namespace Go.Proofs.Ytkeikkkcmackeaa
open Go.RowKit
set_option linter.unusedVariables false
set_option linter.unusedSimpArgs false
set_option maxRecDepth 100000
def lnOps (zp : String) : List Oper := [
  { dst := some 18, op := Op.move (Operand.tmp 0), type := 47, pos := zp, after := #[], guard := none },
  { dst := some 19, op := Op.move (Operand.tmp 0), type := 47, pos := zp, after := #[], guard := none },
  { dst := some 20, op := Op.nilCheck (Operand.tmp 19), type := 0, pos := zp, after := #[{ on := 1, ground := Ground.data }], guard := none },
  { dst := some 21, op := Op.fieldAddr 51 (Operand.tmp 20) 7, type := 0, pos := zp, after := #[{ on := 2, ground := Ground.data }], guard := none },
  { dst := some 22, op := Op.load 5 (Operand.tmp 21), type := 5, pos := zp, after := #[{ on := 3, ground := Ground.data }], guard := none },
  { dst := some 23, op := Op.move (Operand.tmp 2), type := 3, pos := zp, after := #[], guard := none },
  { dst := some 24, op := Op.move (Operand.tmp 0), type := 47, pos := zp, after := #[], guard := none },
  { dst := some 25, op := Op.nilCheck (Operand.tmp 24), type := 0, pos := zp, after := #[{ on := 6, ground := Ground.data }], guard := none },
  { dst := some 26, op := Op.fieldAddr 51 (Operand.tmp 25) 3, type := 0, pos := zp, after := #[{ on := 7, ground := Ground.data }], guard := none },
  { dst := some 27, op := Op.load 5 (Operand.tmp 26), type := 5, pos := zp, after := #[{ on := 8, ground := Ground.data }], guard := none },
  { dst := some 28, op := Op.move (Operand.tmp 2), type := 3, pos := zp, after := #[], guard := none },
  { dst := some 29, op := Op.call { callee := Callee.value (Operand.func 45), args := #[Operand.tmp 27, Operand.tmp 28], argTypes := #[5, 3] }, type := 4, pos := zp, after := #[{ on := 9, ground := Ground.data }, { on := 10, ground := Ground.data }], guard := none },
  { dst := some 30, op := Op.move (Operand.tmp 29), type := 4, pos := zp, after := #[{ on := 11, ground := Ground.data }, { on := 11, ground := Ground.chain }], guard := none },
  { dst := some 31, op := Op.move (Operand.tmp 0), type := 47, pos := zp, after := #[{ on := 12, ground := Ground.guard }], guard := some (12, true) },
  { dst := some 32, op := Op.nilCheck (Operand.tmp 31), type := 0, pos := zp, after := #[{ on := 13, ground := Ground.data }, { on := 12, ground := Ground.guard }], guard := some (12, true) },
  { dst := some 33, op := Op.fieldAddr 51 (Operand.tmp 32) 4, type := 0, pos := zp, after := #[{ on := 14, ground := Ground.data }, { on := 12, ground := Ground.guard }], guard := some (12, true) },
  { dst := some 34, op := Op.load 5 (Operand.tmp 33), type := 5, pos := zp, after := #[{ on := 15, ground := Ground.data }, { on := 12, ground := Ground.guard }], guard := some (12, true) },
  { dst := some 35, op := Op.move (Operand.tmp 2), type := 3, pos := zp, after := #[{ on := 12, ground := Ground.guard }], guard := some (12, true) },
  { dst := some 36, op := Op.call { callee := Callee.value (Operand.func 45), args := #[Operand.tmp 34, Operand.tmp 35], argTypes := #[5, 3] }, type := 4, pos := zp, after := #[{ on := 16, ground := Ground.data }, { on := 17, ground := Ground.data }, { on := 12, ground := Ground.chain }, { on := 12, ground := Ground.guard }], guard := some (12, true) },
  { dst := some 37, op := Op.unOp UnOp.not 4 (Operand.tmp 36), type := 4, pos := zp, after := #[{ on := 18, ground := Ground.data }, { on := 12, ground := Ground.guard }], guard := some (12, true) },
  { dst := some 38, op := Op.pick (Operand.tmp 30) (Operand.tmp 37) (Operand.const (Value.bool false)), type := 4, pos := zp, after := #[{ on := 12, ground := Ground.data }, { on := 19, ground := Ground.data }], guard := none },
  { dst := some 39, op := Op.call { callee := Callee.value (Operand.func 44), args := #[Operand.tmp 22, Operand.tmp 23, Operand.tmp 38], argTypes := #[5, 3, 4] }, type := 5, pos := zp, after := #[{ on := 4, ground := Ground.data }, { on := 5, ground := Ground.data }, { on := 20, ground := Ground.data }, { on := 18, ground := Ground.chain }], guard := none },
  { dst := some 40, op := Op.nilCheck (Operand.tmp 18), type := 0, pos := zp, after := #[{ on := 0, ground := Ground.data }, { on := 0, ground := Ground.phase }, { on := 1, ground := Ground.phase }, { on := 2, ground := Ground.phase }, { on := 3, ground := Ground.phase }, { on := 4, ground := Ground.phase }, { on := 5, ground := Ground.phase }, { on := 6, ground := Ground.phase }, { on := 7, ground := Ground.phase }, { on := 8, ground := Ground.phase }, { on := 9, ground := Ground.phase }, { on := 10, ground := Ground.phase }, { on := 11, ground := Ground.phase }, { on := 12, ground := Ground.phase }, { on := 13, ground := Ground.phase }, { on := 14, ground := Ground.phase }, { on := 15, ground := Ground.phase }, { on := 16, ground := Ground.phase }, { on := 17, ground := Ground.phase }, { on := 18, ground := Ground.phase }, { on := 19, ground := Ground.phase }, { on := 20, ground := Ground.phase }, { on := 21, ground := Ground.phase }], guard := none },
  { dst := some 41, op := Op.fieldAddr 51 (Operand.tmp 40) 7, type := 0, pos := zp, after := #[{ on := 22, ground := Ground.data }, { on := 0, ground := Ground.phase }, { on := 1, ground := Ground.phase }, { on := 2, ground := Ground.phase }, { on := 3, ground := Ground.phase }, { on := 4, ground := Ground.phase }, { on := 5, ground := Ground.phase }, { on := 6, ground := Ground.phase }, { on := 7, ground := Ground.phase }, { on := 8, ground := Ground.phase }, { on := 9, ground := Ground.phase }, { on := 10, ground := Ground.phase }, { on := 11, ground := Ground.phase }, { on := 12, ground := Ground.phase }, { on := 13, ground := Ground.phase }, { on := 14, ground := Ground.phase }, { on := 15, ground := Ground.phase }, { on := 16, ground := Ground.phase }, { on := 17, ground := Ground.phase }, { on := 18, ground := Ground.phase }, { on := 19, ground := Ground.phase }, { on := 20, ground := Ground.phase }, { on := 21, ground := Ground.phase }], guard := none },
  { dst := none, op := Op.store 5 (Operand.tmp 41) (Operand.tmp 39), type := 0, pos := zp, after := #[{ on := 23, ground := Ground.data }, { on := 21, ground := Ground.data }, { on := 21, ground := Ground.chain }, { on := 0, ground := Ground.phase }, { on := 1, ground := Ground.phase }, { on := 2, ground := Ground.phase }, { on := 3, ground := Ground.phase }, { on := 4, ground := Ground.phase }, { on := 5, ground := Ground.phase }, { on := 6, ground := Ground.phase }, { on := 7, ground := Ground.phase }, { on := 8, ground := Ground.phase }, { on := 9, ground := Ground.phase }, { on := 10, ground := Ground.phase }, { on := 11, ground := Ground.phase }, { on := 12, ground := Ground.phase }, { on := 13, ground := Ground.phase }, { on := 14, ground := Ground.phase }, { on := 15, ground := Ground.phase }, { on := 16, ground := Ground.phase }, { on := 17, ground := Ground.phase }, { on := 18, ground := Ground.phase }, { on := 19, ground := Ground.phase }, { on := 20, ground := Ground.phase }, { on := 21, ground := Ground.phase }], guard := none }]
variable {zp : String}
theorem lnOps_dst : (lnOps zp).filterMap (·.dst) = [18, 19, 20, 21, 22, 23, 24, 25, 26, 27, 28, 29, 30, 31, 32, 33, 34, 35, 36, 37, 38, 39, 40, 41] := rfl
def lnS1 (B k : Nat) (x tt ee y : Int) (b : Bool) : Nat → Value → List Value → World → Prop
  | 0, z_, _, _ => z_ = .pointer (some ⟨B, 0, none⟩)
  | 1, z_, _, _ => z_ = .pointer (some ⟨B, 0, none⟩)
  | 2, z_, _, _ => z_ = .pointer (some ⟨B, 0, none⟩)
  | 3, z_, _, _ => z_ = .pointer (some ⟨B, 102, none⟩)
  | 4, z_, _, _ => z_ = .int .u8 x
  | 5, z_, _, _ => z_ = .int .i64 k
  | 6, z_, _, _ => z_ = .pointer (some ⟨B, 0, none⟩)
  | 7, z_, _, _ => z_ = .pointer (some ⟨B, 0, none⟩)
  | 8, z_, _, _ => z_ = .pointer (some ⟨B, 98, none⟩)
  | 9, z_, _, _ => z_ = .int .u8 tt
  | 10, z_, _, _ => z_ = .int .i64 k
  | 11, z_, _, _ => z_ = .bool true
  | 12, z_, _, _ => z_ = .bool true
  | 13, z_, _, _ => z_ = .pointer (some ⟨B, 0, none⟩)
  | 14, z_, _, _ => z_ = .pointer (some ⟨B, 0, none⟩)
  | 15, z_, _, _ => z_ = .pointer (some ⟨B, 99, none⟩)
  | 16, z_, _, _ => z_ = .int .u8 ee
  | 17, z_, _, _ => z_ = .int .i64 k
  | 18, z_, _, _ => z_ = .bool b
  | 19, z_, _, _ => z_ = .bool (!b)
  | 20, z_, _, _ => z_ = .bool (!b)
  | 21, z_, _, _ => z_ = .int .u8 y
  | 22, z_, _, _ => z_ = .pointer (some ⟨B, 0, none⟩)
  | 23, z_, _, _ => z_ = .pointer (some ⟨B, 102, none⟩)
  | _, _, _, _ => True
section
variable {ev : Operand → Value} {w : World}
theorem lnT_0 (B k : Nat) (x tt ee y : Int) (b : Bool) (h0 : ev (.tmp 0) = .pointer (some ⟨B, 0, none⟩)) : (execOp ev { dst := some 18, op := Op.move (Operand.tmp 0), type := 47, pos := zp, after := #[], guard := none }).run Try.prog w = .ok (.value (.pointer (some ⟨B, 0, none⟩))) w := by
  first | (go_simp; done) | (simp [execOp, go_sem, *]; done) | (go_simp; trace_state)
theorem lnT_1 (B k : Nat) (x tt ee y : Int) (b : Bool) (h0 : ev (.tmp 0) = .pointer (some ⟨B, 0, none⟩)) : (execOp ev { dst := some 19, op := Op.move (Operand.tmp 0), type := 47, pos := zp, after := #[], guard := none }).run Try.prog w = .ok (.value (.pointer (some ⟨B, 0, none⟩))) w := by
  first | (go_simp; done) | (simp [execOp, go_sem, *]; done) | (go_simp; trace_state)
theorem lnT_2 (B k : Nat) (x tt ee y : Int) (b : Bool) (h19 : ev (.tmp 19) = .pointer (some ⟨B, 0, none⟩)) : (execOp ev { dst := some 20, op := Op.nilCheck (Operand.tmp 19), type := 0, pos := zp, after := #[{ on := 1, ground := Ground.data }], guard := none }).run Try.prog w = .ok (.value (.pointer (some ⟨B, 0, none⟩))) w := by
  first | (go_simp; done) | (simp [execOp, go_sem, *]; done) | (go_simp; trace_state)
theorem lnT_3 (B k : Nat) (x tt ee y : Int) (b : Bool) (h20 : ev (.tmp 20) = .pointer (some ⟨B, 0, none⟩)) : (execOp ev { dst := some 21, op := Op.fieldAddr 51 (Operand.tmp 20) 7, type := 0, pos := zp, after := #[{ on := 2, ground := Ground.data }], guard := none }).run Try.prog w = .ok (.value (.pointer (some ⟨B, 102, none⟩))) w := by
  first | (go_simp; done) | (simp [execOp, go_sem, *]; done) | (go_simp; trace_state)
theorem lnT_4 (B k : Nat) (x tt ee y : Int) (b : Bool) (h21 : ev (.tmp 21) = .pointer (some ⟨B, 102, none⟩)) (c : w.cell? ⟨B, 102, none⟩ = some (.int .u8 x)) : (execOp ev { dst := some 22, op := Op.load 5 (Operand.tmp 21), type := 5, pos := zp, after := #[{ on := 3, ground := Ground.data }], guard := none }).run Try.prog w = .ok (.value (.int .u8 x)) w := by
  first | (go_simp; done) | (simp [execOp, go_sem, *]; done) | (go_simp; trace_state)
theorem lnT_5 (B k : Nat) (x tt ee y : Int) (b : Bool) (h2 : ev (.tmp 2) = .int .i64 k) : (execOp ev { dst := some 23, op := Op.move (Operand.tmp 2), type := 3, pos := zp, after := #[], guard := none }).run Try.prog w = .ok (.value (.int .i64 k)) w := by
  first | (go_simp; done) | (simp [execOp, go_sem, *]; done) | (go_simp; trace_state)
theorem lnT_6 (B k : Nat) (x tt ee y : Int) (b : Bool) (h0 : ev (.tmp 0) = .pointer (some ⟨B, 0, none⟩)) : (execOp ev { dst := some 24, op := Op.move (Operand.tmp 0), type := 47, pos := zp, after := #[], guard := none }).run Try.prog w = .ok (.value (.pointer (some ⟨B, 0, none⟩))) w := by
  first | (go_simp; done) | (simp [execOp, go_sem, *]; done) | (go_simp; trace_state)
theorem lnT_7 (B k : Nat) (x tt ee y : Int) (b : Bool) (h24 : ev (.tmp 24) = .pointer (some ⟨B, 0, none⟩)) : (execOp ev { dst := some 25, op := Op.nilCheck (Operand.tmp 24), type := 0, pos := zp, after := #[{ on := 6, ground := Ground.data }], guard := none }).run Try.prog w = .ok (.value (.pointer (some ⟨B, 0, none⟩))) w := by
  first | (go_simp; done) | (simp [execOp, go_sem, *]; done) | (go_simp; trace_state)
theorem lnT_8 (B k : Nat) (x tt ee y : Int) (b : Bool) (h25 : ev (.tmp 25) = .pointer (some ⟨B, 0, none⟩)) : (execOp ev { dst := some 26, op := Op.fieldAddr 51 (Operand.tmp 25) 3, type := 0, pos := zp, after := #[{ on := 7, ground := Ground.data }], guard := none }).run Try.prog w = .ok (.value (.pointer (some ⟨B, 98, none⟩))) w := by
  first | (go_simp; done) | (simp [execOp, go_sem, *]; done) | (go_simp; trace_state)
theorem lnT_9 (B k : Nat) (x tt ee y : Int) (b : Bool) (h26 : ev (.tmp 26) = .pointer (some ⟨B, 98, none⟩)) (c : w.cell? ⟨B, 98, none⟩ = some (.int .u8 tt)) : (execOp ev { dst := some 27, op := Op.load 5 (Operand.tmp 26), type := 5, pos := zp, after := #[{ on := 8, ground := Ground.data }], guard := none }).run Try.prog w = .ok (.value (.int .u8 tt)) w := by
  first | (go_simp; done) | (simp [execOp, go_sem, *]; done) | (go_simp; trace_state)
theorem lnT_10 (B k : Nat) (x tt ee y : Int) (b : Bool) (h2 : ev (.tmp 2) = .int .i64 k) : (execOp ev { dst := some 28, op := Op.move (Operand.tmp 2), type := 3, pos := zp, after := #[], guard := none }).run Try.prog w = .ok (.value (.int .i64 k)) w := by
  first | (go_simp; done) | (simp [execOp, go_sem, *]; done) | (go_simp; trace_state)
theorem lnT_12 (B k : Nat) (x tt ee y : Int) (b : Bool) (h29 : ev (.tmp 29) = .bool true) : (execOp ev { dst := some 30, op := Op.move (Operand.tmp 29), type := 4, pos := zp, after := #[{ on := 11, ground := Ground.data }, { on := 11, ground := Ground.chain }], guard := none }).run Try.prog w = .ok (.value (.bool true)) w := by
  first | (go_simp; done) | (simp [execOp, go_sem, *]; done) | (go_simp; trace_state)
theorem lnT_13 (B k : Nat) (x tt ee y : Int) (b : Bool) (h0 : ev (.tmp 0) = .pointer (some ⟨B, 0, none⟩)) : (execOp ev { dst := some 31, op := Op.move (Operand.tmp 0), type := 47, pos := zp, after := #[{ on := 12, ground := Ground.guard }], guard := some (12, true) }).run Try.prog w = .ok (.value (.pointer (some ⟨B, 0, none⟩))) w := by
  first | (go_simp; done) | (simp [execOp, go_sem, *]; done) | (go_simp; trace_state)
theorem lnT_14 (B k : Nat) (x tt ee y : Int) (b : Bool) (h31 : ev (.tmp 31) = .pointer (some ⟨B, 0, none⟩)) : (execOp ev { dst := some 32, op := Op.nilCheck (Operand.tmp 31), type := 0, pos := zp, after := #[{ on := 13, ground := Ground.data }, { on := 12, ground := Ground.guard }], guard := some (12, true) }).run Try.prog w = .ok (.value (.pointer (some ⟨B, 0, none⟩))) w := by
  first | (go_simp; done) | (simp [execOp, go_sem, *]; done) | (go_simp; trace_state)
theorem lnT_15 (B k : Nat) (x tt ee y : Int) (b : Bool) (h32 : ev (.tmp 32) = .pointer (some ⟨B, 0, none⟩)) : (execOp ev { dst := some 33, op := Op.fieldAddr 51 (Operand.tmp 32) 4, type := 0, pos := zp, after := #[{ on := 14, ground := Ground.data }, { on := 12, ground := Ground.guard }], guard := some (12, true) }).run Try.prog w = .ok (.value (.pointer (some ⟨B, 99, none⟩))) w := by
  first | (go_simp; done) | (simp [execOp, go_sem, *]; done) | (go_simp; trace_state)
theorem lnT_16 (B k : Nat) (x tt ee y : Int) (b : Bool) (h33 : ev (.tmp 33) = .pointer (some ⟨B, 99, none⟩)) (c : w.cell? ⟨B, 99, none⟩ = some (.int .u8 ee)) : (execOp ev { dst := some 34, op := Op.load 5 (Operand.tmp 33), type := 5, pos := zp, after := #[{ on := 15, ground := Ground.data }, { on := 12, ground := Ground.guard }], guard := some (12, true) }).run Try.prog w = .ok (.value (.int .u8 ee)) w := by
  first | (go_simp; done) | (simp [execOp, go_sem, *]; done) | (go_simp; trace_state)
theorem lnT_17 (B k : Nat) (x tt ee y : Int) (b : Bool) (h2 : ev (.tmp 2) = .int .i64 k) : (execOp ev { dst := some 35, op := Op.move (Operand.tmp 2), type := 3, pos := zp, after := #[{ on := 12, ground := Ground.guard }], guard := some (12, true) }).run Try.prog w = .ok (.value (.int .i64 k)) w := by
  first | (go_simp; done) | (simp [execOp, go_sem, *]; done) | (go_simp; trace_state)
theorem lnT_19 (B k : Nat) (x tt ee y : Int) (b : Bool) (h36 : ev (.tmp 36) = .bool b) : (execOp ev { dst := some 37, op := Op.unOp UnOp.not 4 (Operand.tmp 36), type := 4, pos := zp, after := #[{ on := 18, ground := Ground.data }, { on := 12, ground := Ground.guard }], guard := some (12, true) }).run Try.prog w = .ok (.value (.bool (!b))) w := by
  first | (go_simp; done) | (simp [execOp, go_sem, *]; done) | (go_simp; trace_state)
theorem lnT_20 (B k : Nat) (x tt ee y : Int) (b : Bool) (h30 : ev (.tmp 30) = .bool true) (h37 : ev (.tmp 37) = .bool (!b)) (hc : ∀ v, ev (.const v) = v) : (execOp ev { dst := some 38, op := Op.pick (Operand.tmp 30) (Operand.tmp 37) (Operand.const (Value.bool false)), type := 4, pos := zp, after := #[{ on := 12, ground := Ground.data }, { on := 19, ground := Ground.data }], guard := none }).run Try.prog w = .ok (.value (.bool (!b))) w := by
  first | (go_simp; done) | (simp [execOp, go_sem, *]; done) | (go_simp; trace_state)
theorem lnT_22 (B k : Nat) (x tt ee y : Int) (b : Bool) (h18 : ev (.tmp 18) = .pointer (some ⟨B, 0, none⟩)) : (execOp ev { dst := some 40, op := Op.nilCheck (Operand.tmp 18), type := 0, pos := zp, after := #[{ on := 0, ground := Ground.data }, { on := 0, ground := Ground.phase }, { on := 1, ground := Ground.phase }, { on := 2, ground := Ground.phase }, { on := 3, ground := Ground.phase }, { on := 4, ground := Ground.phase }, { on := 5, ground := Ground.phase }, { on := 6, ground := Ground.phase }, { on := 7, ground := Ground.phase }, { on := 8, ground := Ground.phase }, { on := 9, ground := Ground.phase }, { on := 10, ground := Ground.phase }, { on := 11, ground := Ground.phase }, { on := 12, ground := Ground.phase }, { on := 13, ground := Ground.phase }, { on := 14, ground := Ground.phase }, { on := 15, ground := Ground.phase }, { on := 16, ground := Ground.phase }, { on := 17, ground := Ground.phase }, { on := 18, ground := Ground.phase }, { on := 19, ground := Ground.phase }, { on := 20, ground := Ground.phase }, { on := 21, ground := Ground.phase }], guard := none }).run Try.prog w = .ok (.value (.pointer (some ⟨B, 0, none⟩))) w := by
  first | (go_simp; done) | (simp [execOp, go_sem, *]; done) | (go_simp; trace_state)
theorem lnT_23 (B k : Nat) (x tt ee y : Int) (b : Bool) (h40 : ev (.tmp 40) = .pointer (some ⟨B, 0, none⟩)) : (execOp ev { dst := some 41, op := Op.fieldAddr 51 (Operand.tmp 40) 7, type := 0, pos := zp, after := #[{ on := 22, ground := Ground.data }, { on := 0, ground := Ground.phase }, { on := 1, ground := Ground.phase }, { on := 2, ground := Ground.phase }, { on := 3, ground := Ground.phase }, { on := 4, ground := Ground.phase }, { on := 5, ground := Ground.phase }, { on := 6, ground := Ground.phase }, { on := 7, ground := Ground.phase }, { on := 8, ground := Ground.phase }, { on := 9, ground := Ground.phase }, { on := 10, ground := Ground.phase }, { on := 11, ground := Ground.phase }, { on := 12, ground := Ground.phase }, { on := 13, ground := Ground.phase }, { on := 14, ground := Ground.phase }, { on := 15, ground := Ground.phase }, { on := 16, ground := Ground.phase }, { on := 17, ground := Ground.phase }, { on := 18, ground := Ground.phase }, { on := 19, ground := Ground.phase }, { on := 20, ground := Ground.phase }, { on := 21, ground := Ground.phase }], guard := none }).run Try.prog w = .ok (.value (.pointer (some ⟨B, 102, none⟩))) w := by
  first | (go_simp; done) | (simp [execOp, go_sem, *]; done) | (go_simp; trace_state)
theorem lnT_24 (B k : Nat) (x tt ee y : Int) (b : Bool) (h39 : ev (.tmp 39) = .int .u8 y) (h41 : ev (.tmp 41) = .pointer (some ⟨B, 102, none⟩)) (cw : ∃ u, w.cell? ⟨B, 102, none⟩ = some (.int .u8 u)) (fw : w.frozen? ⟨B, 102, none⟩ = false) : (execOp ev { dst := none, op := Op.store 5 (Operand.tmp 41) (Operand.tmp 39), type := 0, pos := zp, after := #[{ on := 23, ground := Ground.data }, { on := 21, ground := Ground.data }, { on := 21, ground := Ground.chain }, { on := 0, ground := Ground.phase }, { on := 1, ground := Ground.phase }, { on := 2, ground := Ground.phase }, { on := 3, ground := Ground.phase }, { on := 4, ground := Ground.phase }, { on := 5, ground := Ground.phase }, { on := 6, ground := Ground.phase }, { on := 7, ground := Ground.phase }, { on := 8, ground := Ground.phase }, { on := 9, ground := Ground.phase }, { on := 10, ground := Ground.phase }, { on := 11, ground := Ground.phase }, { on := 12, ground := Ground.phase }, { on := 13, ground := Ground.phase }, { on := 14, ground := Ground.phase }, { on := 15, ground := Ground.phase }, { on := 16, ground := Ground.phase }, { on := 17, ground := Ground.phase }, { on := 18, ground := Ground.phase }, { on := 19, ground := Ground.phase }, { on := 20, ground := Ground.phase }, { on := 21, ground := Ground.phase }], guard := none }).run Try.prog w = .ok .skip (w.setCell ⟨B, 102, none⟩ (.int .u8 y)) := by
  obtain ⟨u, hu⟩ := cw
  go_simp
theorem lnT_11 {x27 : Value} (h27 : ev (.tmp 27) = x27) {x28 : Value} (h28 : ev (.tmp 28) = x28) (hf : ∀ f, ev (.func f) = .func (.func f) #[] #[]) : (execOp ev { dst := some 29, op := Op.call { callee := Callee.value (Operand.func 45), args := #[Operand.tmp 27, Operand.tmp 28], argTypes := #[5, 3] }, type := 4, pos := zp, after := #[{ on := 9, ground := Ground.data }, { on := 10, ground := Ground.data }], guard := none }).run Try.prog w = .ok (.enter 45 #[x27, x28]) w := by
  first | (go_simp; done) | (simp [execOp, go_sem, *]; done) | (go_simp; trace_state)
theorem lnT_18 {x34 : Value} (h34 : ev (.tmp 34) = x34) {x35 : Value} (h35 : ev (.tmp 35) = x35) (hf : ∀ f, ev (.func f) = .func (.func f) #[] #[]) : (execOp ev { dst := some 36, op := Op.call { callee := Callee.value (Operand.func 45), args := #[Operand.tmp 34, Operand.tmp 35], argTypes := #[5, 3] }, type := 4, pos := zp, after := #[{ on := 16, ground := Ground.data }, { on := 17, ground := Ground.data }, { on := 12, ground := Ground.chain }, { on := 12, ground := Ground.guard }], guard := some (12, true) }).run Try.prog w = .ok (.enter 45 #[x34, x35]) w := by
  first | (go_simp; done) | (simp [execOp, go_sem, *]; done) | (go_simp; trace_state)
theorem lnT_21 {x22 : Value} (h22 : ev (.tmp 22) = x22) {x23 : Value} (h23 : ev (.tmp 23) = x23) {x38 : Value} (h38 : ev (.tmp 38) = x38) (hf : ∀ f, ev (.func f) = .func (.func f) #[] #[]) : (execOp ev { dst := some 39, op := Op.call { callee := Callee.value (Operand.func 44), args := #[Operand.tmp 22, Operand.tmp 23, Operand.tmp 38], argTypes := #[5, 3, 4] }, type := 5, pos := zp, after := #[{ on := 4, ground := Ground.data }, { on := 5, ground := Ground.data }, { on := 20, ground := Ground.data }, { on := 18, ground := Ground.chain }], guard := none }).run Try.prog w = .ok (.enter 44 #[x22, x23, x38]) w := by
  first | (go_simp; done) | (simp [execOp, go_sem, *]; done) | (go_simp; trace_state)
end
set_option maxHeartbeats 4000000 in
theorem lnT {wc : World} {B k : Nat} {x tt ee y : Int} {b : Bool} (K : ∀ w', Below wc.heap.size wc w' → w'.cell? ⟨B, 102, none⟩ = some (.int .u8 x)) (KF : ∀ w', Below wc.heap.size wc w' → w'.frozen? ⟨B, 102, none⟩ = false) (K8 : ∀ w', Below wc.heap.size wc w' → w'.cell? ⟨B, 98, none⟩ = some (.int .u8 tt)) (K9 : ∀ w', Below wc.heap.size wc w' → w'.cell? ⟨B, 99, none⟩ = some (.int .u8 ee)) (C1 : ∀ w', Calls Try.prog 45 #[.int .u8 tt, .int .i64 k] w' (Says w' (.bool true))) (C2 : ∀ w', Calls Try.prog 45 #[.int .u8 ee, .int .i64 k] w' (Says w' (.bool b))) (C3 : ∀ w', Calls Try.prog 44 #[.int .u8 x, .int .i64 k, .bool (!b)] w' (Says w' (.int .u8 y))) (xs : List Value) (df : List Deferred) (hl : xs.length = 44) (x0 : xs[0]? = some (.pointer (some ⟨B, 0, none⟩))) (x2 : xs[2]? = some (.int .i64 k))
    (Q : Exit → Act → World → Prop) (hQ : ∀ us w', Below wc.heap.size wc w' → Q .normal ⟨(fill ((lnOps zp).filterMap (·.dst)) us 0 xs).toArray, df⟩ (w'.setCell ⟨B, 102, none⟩ (.int .u8 y))) :
    (Code.region 6 (lnOps zp).toArray true).wp Try.prog Q ⟨xs.toArray, df⟩ wc := by
  refine wp_region_tail (C := fun w' => Below wc.heap.size wc w') (S := lnS1 B k x tt ee y b) (Ev := fun _ _ => True) 24 ({ dst := none, op := Op.store 5 (Operand.tmp 41) (Operand.tmp 39), type := 0, pos := zp, after := #[{ on := 23, ground := Ground.data }, { on := 21, ground := Ground.data }, { on := 21, ground := Ground.chain }, { on := 0, ground := Ground.phase }, { on := 1, ground := Ground.phase }, { on := 2, ground := Ground.phase }, { on := 3, ground := Ground.phase }, { on := 4, ground := Ground.phase }, { on := 5, ground := Ground.phase }, { on := 6, ground := Ground.phase }, { on := 7, ground := Ground.phase }, { on := 8, ground := Ground.phase }, { on := 9, ground := Ground.phase }, { on := 10, ground := Ground.phase }, { on := 11, ground := Ground.phase }, { on := 12, ground := Ground.phase }, { on := 13, ground := Ground.phase }, { on := 14, ground := Ground.phase }, { on := 15, ground := Ground.phase }, { on := 16, ground := Ground.phase }, { on := 17, ground := Ground.phase }, { on := 18, ground := Ground.phase }, { on := 19, ground := Ground.phase }, { on := 20, ground := Ground.phase }, { on := 21, ground := Ground.phase }], guard := none }) rfl rfl rfl (by kernel_rfl) (by kernel_rfl) (by kernel_rfl) ?_ (belowD (Below.refl _ _)) ?_ ?_
  · intro i z_ vs w1 w2 h _
    match i, h with
    | 0, h => exact h
    | 1, h => exact h
    | 2, h => exact h
    | 3, h => exact h
    | 4, h => exact h
    | 5, h => exact h
    | 6, h => exact h
    | 7, h => exact h
    | 8, h => exact h
    | 9, h => exact h
    | 10, h => exact h
    | 11, h => exact h
    | 12, h => exact h
    | 13, h => exact h
    | 14, h => exact h
    | 15, h => exact h
    | 16, h => exact h
    | 17, h => exact h
    | 18, h => exact h
    | 19, h => exact h
    | 20, h => exact h
    | 21, h => exact h
    | 22, h => exact h
    | 23, h => exact h
    | _ + 24, h => exact trivial
  · refine And.intro (fun us w' hw hd => ?_) ?_
    · exact stepOf_plain rfl (opw (lnT_0 (B := B) (k := k) (x := x) (tt := tt) (ee := ee) (y := y) (b := b) (h0 := (fill_else _ us xs df 0 _ x0 rfl))) ⟨_, rfl, hw, rfl, trivial⟩)
    refine And.intro (fun us w' hw hd => ?_) ?_
    · exact stepOf_plain rfl (opw (lnT_1 (B := B) (k := k) (x := x) (tt := tt) (ee := ee) (y := y) (b := b) (h0 := (fill_else _ us xs df 0 _ x0 rfl))) ⟨_, rfl, hw, rfl, trivial⟩)
    refine And.intro (fun us w' hw hd => ?_) ?_
    · have h19 : us 19 = .pointer (some ⟨B, 0, none⟩) := hd.1 rfl
      exact stepOf_plain rfl (opw (lnT_2 (B := B) (k := k) (x := x) (tt := tt) (ee := ee) (y := y) (b := b) (h19 := ((fill_slot _ us xs df 19 (by omega) rfl).trans h19))) ⟨_, rfl, hw, rfl, trivial⟩)
    refine And.intro (fun us w' hw hd => ?_) ?_
    · have h20 : us 20 = .pointer (some ⟨B, 0, none⟩) := hd.1 rfl
      exact stepOf_plain rfl (opw (lnT_3 (B := B) (k := k) (x := x) (tt := tt) (ee := ee) (y := y) (b := b) (h20 := ((fill_slot _ us xs df 20 (by omega) rfl).trans h20))) ⟨_, rfl, hw, rfl, trivial⟩)
    refine And.intro (fun us w' hw hd => ?_) ?_
    · have h21 : us 21 = .pointer (some ⟨B, 102, none⟩) := hd.1 rfl
      exact stepOf_plain rfl (opw (lnT_4 (B := B) (k := k) (x := x) (tt := tt) (ee := ee) (y := y) (b := b) (h21 := ((fill_slot _ us xs df 21 (by omega) rfl).trans h21)) (c := (K w' hw))) ⟨_, rfl, hw, rfl, trivial⟩)
    refine And.intro (fun us w' hw hd => ?_) ?_
    · exact stepOf_plain rfl (opw (lnT_5 (B := B) (k := k) (x := x) (tt := tt) (ee := ee) (y := y) (b := b) (h2 := (fill_else _ us xs df 2 _ x2 rfl))) ⟨_, rfl, hw, rfl, trivial⟩)
    refine And.intro (fun us w' hw hd => ?_) ?_
    · exact stepOf_plain rfl (opw (lnT_6 (B := B) (k := k) (x := x) (tt := tt) (ee := ee) (y := y) (b := b) (h0 := (fill_else _ us xs df 0 _ x0 rfl))) ⟨_, rfl, hw, rfl, trivial⟩)
    refine And.intro (fun us w' hw hd => ?_) ?_
    · have h24 : us 24 = .pointer (some ⟨B, 0, none⟩) := hd.1 rfl
      exact stepOf_plain rfl (opw (lnT_7 (B := B) (k := k) (x := x) (tt := tt) (ee := ee) (y := y) (b := b) (h24 := ((fill_slot _ us xs df 24 (by omega) rfl).trans h24))) ⟨_, rfl, hw, rfl, trivial⟩)
    refine And.intro (fun us w' hw hd => ?_) ?_
    · have h25 : us 25 = .pointer (some ⟨B, 0, none⟩) := hd.1 rfl
      exact stepOf_plain rfl (opw (lnT_8 (B := B) (k := k) (x := x) (tt := tt) (ee := ee) (y := y) (b := b) (h25 := ((fill_slot _ us xs df 25 (by omega) rfl).trans h25))) ⟨_, rfl, hw, rfl, trivial⟩)
    refine And.intro (fun us w' hw hd => ?_) ?_
    · have h26 : us 26 = .pointer (some ⟨B, 98, none⟩) := hd.1 rfl
      exact stepOf_plain rfl (opw (lnT_9 (B := B) (k := k) (x := x) (tt := tt) (ee := ee) (y := y) (b := b) (h26 := ((fill_slot _ us xs df 26 (by omega) rfl).trans h26)) (c := (K8 w' hw))) ⟨_, rfl, hw, rfl, trivial⟩)
    refine And.intro (fun us w' hw hd => ?_) ?_
    · exact stepOf_plain rfl (opw (lnT_10 (B := B) (k := k) (x := x) (tt := tt) (ee := ee) (y := y) (b := b) (h2 := (fill_else _ us xs df 2 _ x2 rfl))) ⟨_, rfl, hw, rfl, trivial⟩)
    refine And.intro (fun us w' hw hd => ?_) ?_
    · have h27 : us 27 = .int .u8 tt := hd.1 rfl
      have h28 : us 28 = .int .i64 k := hd.2.1 rfl
      refine stepOf_plain rfl (opw_call (lnT_11 (h27 := ((fill_slot _ us xs df 27 (by omega) rfl).trans h27)) (h28 := ((fill_slot _ us xs df 28 (by omega) rfl).trans h28)) (hf := fun _ => rfl)) ?_)
      refine (C1 w').mono ?_
      rintro e' w2 ⟨rfl, b2⟩
      exact ⟨_, rfl, _, rfl, belowStep hw b2, rfl, trivial⟩
    refine And.intro (fun us w' hw hd => ?_) ?_
    · have h29 : us 29 = .bool true := hd.1 rfl
      exact stepOf_plain rfl (opw (lnT_12 (B := B) (k := k) (x := x) (tt := tt) (ee := ee) (y := y) (b := b) (h29 := ((fill_slot _ us xs df 29 (by omega) rfl).trans h29))) ⟨_, rfl, hw, rfl, trivial⟩)
    refine And.intro (fun us w' hw hd => ?_) ?_
    · have h30 : us 30 = .bool true := hd.1 rfl
      have hg : Region.wanted { dst := some 31, op := Op.move (Operand.tmp 0), type := 47, pos := zp, after := #[{ on := 12, ground := Ground.guard }], guard := some (12, true) } (yielded (lnOps zp).toArray (fill ((lnOps zp).filterMap (·.dst)) us 0 xs).toArray) = true := by
        show (yielded (lnOps zp).toArray (fill ((lnOps zp).filterMap (·.dst)) us 0 xs).toArray 12 == some true) = true
        rw [tl_guard (lnOps zp) us xs 12 30 true rfl rfl (by omega) h30]; rfl
      exact stepOf_yes hg (opw (lnT_13 (B := B) (k := k) (x := x) (tt := tt) (ee := ee) (y := y) (b := b) (h0 := (fill_else _ us xs df 0 _ x0 rfl))) ⟨_, rfl, hw, rfl, trivial⟩)
    refine And.intro (fun us w' hw hd => ?_) ?_
    · have h31 : us 31 = .pointer (some ⟨B, 0, none⟩) := hd.1 rfl
      have h30 : us 30 = .bool true := hd.2.1 rfl
      have hg : Region.wanted { dst := some 32, op := Op.nilCheck (Operand.tmp 31), type := 0, pos := zp, after := #[{ on := 13, ground := Ground.data }, { on := 12, ground := Ground.guard }], guard := some (12, true) } (yielded (lnOps zp).toArray (fill ((lnOps zp).filterMap (·.dst)) us 0 xs).toArray) = true := by
        show (yielded (lnOps zp).toArray (fill ((lnOps zp).filterMap (·.dst)) us 0 xs).toArray 12 == some true) = true
        rw [tl_guard (lnOps zp) us xs 12 30 true rfl rfl (by omega) h30]; rfl
      exact stepOf_yes hg (opw (lnT_14 (B := B) (k := k) (x := x) (tt := tt) (ee := ee) (y := y) (b := b) (h31 := ((fill_slot _ us xs df 31 (by omega) rfl).trans h31))) ⟨_, rfl, hw, rfl, trivial⟩)
    refine And.intro (fun us w' hw hd => ?_) ?_
    · have h32 : us 32 = .pointer (some ⟨B, 0, none⟩) := hd.1 rfl
      have h30 : us 30 = .bool true := hd.2.1 rfl
      have hg : Region.wanted { dst := some 33, op := Op.fieldAddr 51 (Operand.tmp 32) 4, type := 0, pos := zp, after := #[{ on := 14, ground := Ground.data }, { on := 12, ground := Ground.guard }], guard := some (12, true) } (yielded (lnOps zp).toArray (fill ((lnOps zp).filterMap (·.dst)) us 0 xs).toArray) = true := by
        show (yielded (lnOps zp).toArray (fill ((lnOps zp).filterMap (·.dst)) us 0 xs).toArray 12 == some true) = true
        rw [tl_guard (lnOps zp) us xs 12 30 true rfl rfl (by omega) h30]; rfl
      exact stepOf_yes hg (opw (lnT_15 (B := B) (k := k) (x := x) (tt := tt) (ee := ee) (y := y) (b := b) (h32 := ((fill_slot _ us xs df 32 (by omega) rfl).trans h32))) ⟨_, rfl, hw, rfl, trivial⟩)
    refine And.intro (fun us w' hw hd => ?_) ?_
    · have h33 : us 33 = .pointer (some ⟨B, 99, none⟩) := hd.1 rfl
      have h30 : us 30 = .bool true := hd.2.1 rfl
      have hg : Region.wanted { dst := some 34, op := Op.load 5 (Operand.tmp 33), type := 5, pos := zp, after := #[{ on := 15, ground := Ground.data }, { on := 12, ground := Ground.guard }], guard := some (12, true) } (yielded (lnOps zp).toArray (fill ((lnOps zp).filterMap (·.dst)) us 0 xs).toArray) = true := by
        show (yielded (lnOps zp).toArray (fill ((lnOps zp).filterMap (·.dst)) us 0 xs).toArray 12 == some true) = true
        rw [tl_guard (lnOps zp) us xs 12 30 true rfl rfl (by omega) h30]; rfl
      exact stepOf_yes hg (opw (lnT_16 (B := B) (k := k) (x := x) (tt := tt) (ee := ee) (y := y) (b := b) (h33 := ((fill_slot _ us xs df 33 (by omega) rfl).trans h33)) (c := (K9 w' hw))) ⟨_, rfl, hw, rfl, trivial⟩)
    refine And.intro (fun us w' hw hd => ?_) ?_
    · have h30 : us 30 = .bool true := hd.1 rfl
      have hg : Region.wanted { dst := some 35, op := Op.move (Operand.tmp 2), type := 3, pos := zp, after := #[{ on := 12, ground := Ground.guard }], guard := some (12, true) } (yielded (lnOps zp).toArray (fill ((lnOps zp).filterMap (·.dst)) us 0 xs).toArray) = true := by
        show (yielded (lnOps zp).toArray (fill ((lnOps zp).filterMap (·.dst)) us 0 xs).toArray 12 == some true) = true
        rw [tl_guard (lnOps zp) us xs 12 30 true rfl rfl (by omega) h30]; rfl
      exact stepOf_yes hg (opw (lnT_17 (B := B) (k := k) (x := x) (tt := tt) (ee := ee) (y := y) (b := b) (h2 := (fill_else _ us xs df 2 _ x2 rfl))) ⟨_, rfl, hw, rfl, trivial⟩)
    refine And.intro (fun us w' hw hd => ?_) ?_
    · have h34 : us 34 = .int .u8 ee := hd.1 rfl
      have h35 : us 35 = .int .i64 k := hd.2.1 rfl
      have h30 : us 30 = .bool true := hd.2.2.1 rfl
      have hg : Region.wanted { dst := some 36, op := Op.call { callee := Callee.value (Operand.func 45), args := #[Operand.tmp 34, Operand.tmp 35], argTypes := #[5, 3] }, type := 4, pos := zp, after := #[{ on := 16, ground := Ground.data }, { on := 17, ground := Ground.data }, { on := 12, ground := Ground.chain }, { on := 12, ground := Ground.guard }], guard := some (12, true) } (yielded (lnOps zp).toArray (fill ((lnOps zp).filterMap (·.dst)) us 0 xs).toArray) = true := by
        show (yielded (lnOps zp).toArray (fill ((lnOps zp).filterMap (·.dst)) us 0 xs).toArray 12 == some true) = true
        rw [tl_guard (lnOps zp) us xs 12 30 true rfl rfl (by omega) h30]; rfl
      refine stepOf_yes hg (opw_call (lnT_18 (h34 := ((fill_slot _ us xs df 34 (by omega) rfl).trans h34)) (h35 := ((fill_slot _ us xs df 35 (by omega) rfl).trans h35)) (hf := fun _ => rfl)) ?_)
      refine (C2 w').mono ?_
      rintro e' w2 ⟨rfl, b2⟩
      exact ⟨_, rfl, _, rfl, belowStep hw b2, rfl, trivial⟩
    refine And.intro (fun us w' hw hd => ?_) ?_
    · have h36 : us 36 = .bool b := hd.1 rfl
      have h30 : us 30 = .bool true := hd.2.1 rfl
      have hg : Region.wanted { dst := some 37, op := Op.unOp UnOp.not 4 (Operand.tmp 36), type := 4, pos := zp, after := #[{ on := 18, ground := Ground.data }, { on := 12, ground := Ground.guard }], guard := some (12, true) } (yielded (lnOps zp).toArray (fill ((lnOps zp).filterMap (·.dst)) us 0 xs).toArray) = true := by
        show (yielded (lnOps zp).toArray (fill ((lnOps zp).filterMap (·.dst)) us 0 xs).toArray 12 == some true) = true
        rw [tl_guard (lnOps zp) us xs 12 30 true rfl rfl (by omega) h30]; rfl
      exact stepOf_yes hg (opw (lnT_19 (B := B) (k := k) (x := x) (tt := tt) (ee := ee) (y := y) (b := b) (h36 := ((fill_slot _ us xs df 36 (by omega) rfl).trans h36))) ⟨_, rfl, hw, rfl, trivial⟩)
    refine And.intro (fun us w' hw hd => ?_) ?_
    · have h30 : us 30 = .bool true := hd.1 rfl
      have h37 : us 37 = .bool (!b) := hd.2.1 rfl
      exact stepOf_plain rfl (opw (lnT_20 (B := B) (k := k) (x := x) (tt := tt) (ee := ee) (y := y) (b := b) (h30 := ((fill_slot _ us xs df 30 (by omega) rfl).trans h30)) (h37 := ((fill_slot _ us xs df 37 (by omega) rfl).trans h37)) (hc := fun _ => rfl)) ⟨_, rfl, hw, rfl, trivial⟩)
    refine And.intro (fun us w' hw hd => ?_) ?_
    · have h22 : us 22 = .int .u8 x := hd.1 rfl
      have h23 : us 23 = .int .i64 k := hd.2.1 rfl
      have h38 : us 38 = .bool (!b) := hd.2.2.1 rfl
      refine stepOf_plain rfl (opw_call (lnT_21 (h22 := ((fill_slot _ us xs df 22 (by omega) rfl).trans h22)) (h23 := ((fill_slot _ us xs df 23 (by omega) rfl).trans h23)) (h38 := ((fill_slot _ us xs df 38 (by omega) rfl).trans h38)) (hf := fun _ => rfl)) ?_)
      refine (C3 w').mono ?_
      rintro e' w2 ⟨rfl, b2⟩
      exact ⟨_, rfl, _, rfl, belowStep hw b2, rfl, trivial⟩
    refine And.intro (fun us w' hw hd => ?_) ?_
    · have h18 : us 18 = .pointer (some ⟨B, 0, none⟩) := hd.1 rfl
      exact stepOf_plain rfl (opw (lnT_22 (B := B) (k := k) (x := x) (tt := tt) (ee := ee) (y := y) (b := b) (h18 := ((fill_slot _ us xs df 18 (by omega) rfl).trans h18))) ⟨_, rfl, hw, rfl, trivial⟩)
    refine And.intro (fun us w' hw hd => ?_) ?_
    · have h40 : us 40 = .pointer (some ⟨B, 0, none⟩) := hd.1 rfl
      exact stepOf_plain rfl (opw (lnT_23 (B := B) (k := k) (x := x) (tt := tt) (ee := ee) (y := y) (b := b) (h40 := ((fill_slot _ us xs df 40 (by omega) rfl).trans h40))) ⟨_, rfl, hw, rfl, trivial⟩)
    exact trivial
  · intro us w' hw ha
    have h41 : us 41 = .pointer (some ⟨B, 102, none⟩) := ha.2.2.2.2.2.2.2.2.2.2.2.2.2.2.2.2.2.2.2.2.2.2.2.1
    have h39 : us 39 = .int .u8 y := ha.2.2.2.2.2.2.2.2.2.2.2.2.2.2.2.2.2.2.2.2.2.1
    exact opw_skip (lnT_24 (B := B) (k := k) (x := x) (tt := tt) (ee := ee) (y := y) (b := b) (h41 := (fill_slot ((lnOps zp).filterMap (·.dst)) us xs df 41 (by omega) rfl).trans h41) (h39 := (fill_slot ((lnOps zp).filterMap (·.dst)) us xs df 39 (by omega) rfl).trans h39) (cw := ⟨_, (K w' hw)⟩) (fw := (KF w' hw))) (hQ us w' hw)
def lnS0 (B k : Nat) (x tt ee y : Int) (b : Bool) : Nat → Value → List Value → World → Prop
  | 0, z_, _, _ => z_ = .pointer (some ⟨B, 0, none⟩)
  | 1, z_, _, _ => z_ = .pointer (some ⟨B, 0, none⟩)
  | 2, z_, _, _ => z_ = .pointer (some ⟨B, 0, none⟩)
  | 3, z_, _, _ => z_ = .pointer (some ⟨B, 102, none⟩)
  | 4, z_, _, _ => z_ = .int .u8 x
  | 5, z_, _, _ => z_ = .int .i64 k
  | 6, z_, _, _ => z_ = .pointer (some ⟨B, 0, none⟩)
  | 7, z_, _, _ => z_ = .pointer (some ⟨B, 0, none⟩)
  | 8, z_, _, _ => z_ = .pointer (some ⟨B, 98, none⟩)
  | 9, z_, _, _ => z_ = .int .u8 tt
  | 10, z_, _, _ => z_ = .int .i64 k
  | 11, z_, _, _ => z_ = .bool false
  | 12, z_, _, _ => z_ = .bool false
  | 20, z_, _, _ => z_ = .bool false
  | 21, z_, _, _ => z_ = .int .u8 y
  | 22, z_, _, _ => z_ = .pointer (some ⟨B, 0, none⟩)
  | 23, z_, _, _ => z_ = .pointer (some ⟨B, 102, none⟩)
  | _, _, _, _ => True
section
variable {ev : Operand → Value} {w : World}
theorem lnF_0 (B k : Nat) (x tt ee y : Int) (b : Bool) (h0 : ev (.tmp 0) = .pointer (some ⟨B, 0, none⟩)) : (execOp ev { dst := some 18, op := Op.move (Operand.tmp 0), type := 47, pos := zp, after := #[], guard := none }).run Try.prog w = .ok (.value (.pointer (some ⟨B, 0, none⟩))) w := by
  first | (go_simp; done) | (simp [execOp, go_sem, *]; done) | (go_simp; trace_state)
theorem lnF_1 (B k : Nat) (x tt ee y : Int) (b : Bool) (h0 : ev (.tmp 0) = .pointer (some ⟨B, 0, none⟩)) : (execOp ev { dst := some 19, op := Op.move (Operand.tmp 0), type := 47, pos := zp, after := #[], guard := none }).run Try.prog w = .ok (.value (.pointer (some ⟨B, 0, none⟩))) w := by
  first | (go_simp; done) | (simp [execOp, go_sem, *]; done) | (go_simp; trace_state)
theorem lnF_2 (B k : Nat) (x tt ee y : Int) (b : Bool) (h19 : ev (.tmp 19) = .pointer (some ⟨B, 0, none⟩)) : (execOp ev { dst := some 20, op := Op.nilCheck (Operand.tmp 19), type := 0, pos := zp, after := #[{ on := 1, ground := Ground.data }], guard := none }).run Try.prog w = .ok (.value (.pointer (some ⟨B, 0, none⟩))) w := by
  first | (go_simp; done) | (simp [execOp, go_sem, *]; done) | (go_simp; trace_state)
theorem lnF_3 (B k : Nat) (x tt ee y : Int) (b : Bool) (h20 : ev (.tmp 20) = .pointer (some ⟨B, 0, none⟩)) : (execOp ev { dst := some 21, op := Op.fieldAddr 51 (Operand.tmp 20) 7, type := 0, pos := zp, after := #[{ on := 2, ground := Ground.data }], guard := none }).run Try.prog w = .ok (.value (.pointer (some ⟨B, 102, none⟩))) w := by
  first | (go_simp; done) | (simp [execOp, go_sem, *]; done) | (go_simp; trace_state)
theorem lnF_4 (B k : Nat) (x tt ee y : Int) (b : Bool) (h21 : ev (.tmp 21) = .pointer (some ⟨B, 102, none⟩)) (c : w.cell? ⟨B, 102, none⟩ = some (.int .u8 x)) : (execOp ev { dst := some 22, op := Op.load 5 (Operand.tmp 21), type := 5, pos := zp, after := #[{ on := 3, ground := Ground.data }], guard := none }).run Try.prog w = .ok (.value (.int .u8 x)) w := by
  first | (go_simp; done) | (simp [execOp, go_sem, *]; done) | (go_simp; trace_state)
theorem lnF_5 (B k : Nat) (x tt ee y : Int) (b : Bool) (h2 : ev (.tmp 2) = .int .i64 k) : (execOp ev { dst := some 23, op := Op.move (Operand.tmp 2), type := 3, pos := zp, after := #[], guard := none }).run Try.prog w = .ok (.value (.int .i64 k)) w := by
  first | (go_simp; done) | (simp [execOp, go_sem, *]; done) | (go_simp; trace_state)
theorem lnF_6 (B k : Nat) (x tt ee y : Int) (b : Bool) (h0 : ev (.tmp 0) = .pointer (some ⟨B, 0, none⟩)) : (execOp ev { dst := some 24, op := Op.move (Operand.tmp 0), type := 47, pos := zp, after := #[], guard := none }).run Try.prog w = .ok (.value (.pointer (some ⟨B, 0, none⟩))) w := by
  first | (go_simp; done) | (simp [execOp, go_sem, *]; done) | (go_simp; trace_state)
theorem lnF_7 (B k : Nat) (x tt ee y : Int) (b : Bool) (h24 : ev (.tmp 24) = .pointer (some ⟨B, 0, none⟩)) : (execOp ev { dst := some 25, op := Op.nilCheck (Operand.tmp 24), type := 0, pos := zp, after := #[{ on := 6, ground := Ground.data }], guard := none }).run Try.prog w = .ok (.value (.pointer (some ⟨B, 0, none⟩))) w := by
  first | (go_simp; done) | (simp [execOp, go_sem, *]; done) | (go_simp; trace_state)
theorem lnF_8 (B k : Nat) (x tt ee y : Int) (b : Bool) (h25 : ev (.tmp 25) = .pointer (some ⟨B, 0, none⟩)) : (execOp ev { dst := some 26, op := Op.fieldAddr 51 (Operand.tmp 25) 3, type := 0, pos := zp, after := #[{ on := 7, ground := Ground.data }], guard := none }).run Try.prog w = .ok (.value (.pointer (some ⟨B, 98, none⟩))) w := by
  first | (go_simp; done) | (simp [execOp, go_sem, *]; done) | (go_simp; trace_state)
theorem lnF_9 (B k : Nat) (x tt ee y : Int) (b : Bool) (h26 : ev (.tmp 26) = .pointer (some ⟨B, 98, none⟩)) (c : w.cell? ⟨B, 98, none⟩ = some (.int .u8 tt)) : (execOp ev { dst := some 27, op := Op.load 5 (Operand.tmp 26), type := 5, pos := zp, after := #[{ on := 8, ground := Ground.data }], guard := none }).run Try.prog w = .ok (.value (.int .u8 tt)) w := by
  first | (go_simp; done) | (simp [execOp, go_sem, *]; done) | (go_simp; trace_state)
theorem lnF_10 (B k : Nat) (x tt ee y : Int) (b : Bool) (h2 : ev (.tmp 2) = .int .i64 k) : (execOp ev { dst := some 28, op := Op.move (Operand.tmp 2), type := 3, pos := zp, after := #[], guard := none }).run Try.prog w = .ok (.value (.int .i64 k)) w := by
  first | (go_simp; done) | (simp [execOp, go_sem, *]; done) | (go_simp; trace_state)
theorem lnF_12 (B k : Nat) (x tt ee y : Int) (b : Bool) (h29 : ev (.tmp 29) = .bool false) : (execOp ev { dst := some 30, op := Op.move (Operand.tmp 29), type := 4, pos := zp, after := #[{ on := 11, ground := Ground.data }, { on := 11, ground := Ground.chain }], guard := none }).run Try.prog w = .ok (.value (.bool false)) w := by
  first | (go_simp; done) | (simp [execOp, go_sem, *]; done) | (go_simp; trace_state)
theorem lnF_20 (B k : Nat) (x tt ee y : Int) (b : Bool) (h30 : ev (.tmp 30) = .bool false) (hc : ∀ v, ev (.const v) = v) : (execOp ev { dst := some 38, op := Op.pick (Operand.tmp 30) (Operand.tmp 37) (Operand.const (Value.bool false)), type := 4, pos := zp, after := #[{ on := 12, ground := Ground.data }, { on := 19, ground := Ground.data }], guard := none }).run Try.prog w = .ok (.value (.bool false)) w := by
  first | (go_simp; done) | (simp [execOp, go_sem, *]; done) | (go_simp; trace_state)
theorem lnF_22 (B k : Nat) (x tt ee y : Int) (b : Bool) (h18 : ev (.tmp 18) = .pointer (some ⟨B, 0, none⟩)) : (execOp ev { dst := some 40, op := Op.nilCheck (Operand.tmp 18), type := 0, pos := zp, after := #[{ on := 0, ground := Ground.data }, { on := 0, ground := Ground.phase }, { on := 1, ground := Ground.phase }, { on := 2, ground := Ground.phase }, { on := 3, ground := Ground.phase }, { on := 4, ground := Ground.phase }, { on := 5, ground := Ground.phase }, { on := 6, ground := Ground.phase }, { on := 7, ground := Ground.phase }, { on := 8, ground := Ground.phase }, { on := 9, ground := Ground.phase }, { on := 10, ground := Ground.phase }, { on := 11, ground := Ground.phase }, { on := 12, ground := Ground.phase }, { on := 13, ground := Ground.phase }, { on := 14, ground := Ground.phase }, { on := 15, ground := Ground.phase }, { on := 16, ground := Ground.phase }, { on := 17, ground := Ground.phase }, { on := 18, ground := Ground.phase }, { on := 19, ground := Ground.phase }, { on := 20, ground := Ground.phase }, { on := 21, ground := Ground.phase }], guard := none }).run Try.prog w = .ok (.value (.pointer (some ⟨B, 0, none⟩))) w := by
  first | (go_simp; done) | (simp [execOp, go_sem, *]; done) | (go_simp; trace_state)
theorem lnF_23 (B k : Nat) (x tt ee y : Int) (b : Bool) (h40 : ev (.tmp 40) = .pointer (some ⟨B, 0, none⟩)) : (execOp ev { dst := some 41, op := Op.fieldAddr 51 (Operand.tmp 40) 7, type := 0, pos := zp, after := #[{ on := 22, ground := Ground.data }, { on := 0, ground := Ground.phase }, { on := 1, ground := Ground.phase }, { on := 2, ground := Ground.phase }, { on := 3, ground := Ground.phase }, { on := 4, ground := Ground.phase }, { on := 5, ground := Ground.phase }, { on := 6, ground := Ground.phase }, { on := 7, ground := Ground.phase }, { on := 8, ground := Ground.phase }, { on := 9, ground := Ground.phase }, { on := 10, ground := Ground.phase }, { on := 11, ground := Ground.phase }, { on := 12, ground := Ground.phase }, { on := 13, ground := Ground.phase }, { on := 14, ground := Ground.phase }, { on := 15, ground := Ground.phase }, { on := 16, ground := Ground.phase }, { on := 17, ground := Ground.phase }, { on := 18, ground := Ground.phase }, { on := 19, ground := Ground.phase }, { on := 20, ground := Ground.phase }, { on := 21, ground := Ground.phase }], guard := none }).run Try.prog w = .ok (.value (.pointer (some ⟨B, 102, none⟩))) w := by
  first | (go_simp; done) | (simp [execOp, go_sem, *]; done) | (go_simp; trace_state)
theorem lnF_24 (B k : Nat) (x tt ee y : Int) (b : Bool) (h39 : ev (.tmp 39) = .int .u8 y) (h41 : ev (.tmp 41) = .pointer (some ⟨B, 102, none⟩)) (cw : ∃ u, w.cell? ⟨B, 102, none⟩ = some (.int .u8 u)) (fw : w.frozen? ⟨B, 102, none⟩ = false) : (execOp ev { dst := none, op := Op.store 5 (Operand.tmp 41) (Operand.tmp 39), type := 0, pos := zp, after := #[{ on := 23, ground := Ground.data }, { on := 21, ground := Ground.data }, { on := 21, ground := Ground.chain }, { on := 0, ground := Ground.phase }, { on := 1, ground := Ground.phase }, { on := 2, ground := Ground.phase }, { on := 3, ground := Ground.phase }, { on := 4, ground := Ground.phase }, { on := 5, ground := Ground.phase }, { on := 6, ground := Ground.phase }, { on := 7, ground := Ground.phase }, { on := 8, ground := Ground.phase }, { on := 9, ground := Ground.phase }, { on := 10, ground := Ground.phase }, { on := 11, ground := Ground.phase }, { on := 12, ground := Ground.phase }, { on := 13, ground := Ground.phase }, { on := 14, ground := Ground.phase }, { on := 15, ground := Ground.phase }, { on := 16, ground := Ground.phase }, { on := 17, ground := Ground.phase }, { on := 18, ground := Ground.phase }, { on := 19, ground := Ground.phase }, { on := 20, ground := Ground.phase }, { on := 21, ground := Ground.phase }], guard := none }).run Try.prog w = .ok .skip (w.setCell ⟨B, 102, none⟩ (.int .u8 y)) := by
  obtain ⟨u, hu⟩ := cw
  go_simp
theorem lnF_11 {x27 : Value} (h27 : ev (.tmp 27) = x27) {x28 : Value} (h28 : ev (.tmp 28) = x28) (hf : ∀ f, ev (.func f) = .func (.func f) #[] #[]) : (execOp ev { dst := some 29, op := Op.call { callee := Callee.value (Operand.func 45), args := #[Operand.tmp 27, Operand.tmp 28], argTypes := #[5, 3] }, type := 4, pos := zp, after := #[{ on := 9, ground := Ground.data }, { on := 10, ground := Ground.data }], guard := none }).run Try.prog w = .ok (.enter 45 #[x27, x28]) w := by
  first | (go_simp; done) | (simp [execOp, go_sem, *]; done) | (go_simp; trace_state)
theorem lnF_21 {x22 : Value} (h22 : ev (.tmp 22) = x22) {x23 : Value} (h23 : ev (.tmp 23) = x23) {x38 : Value} (h38 : ev (.tmp 38) = x38) (hf : ∀ f, ev (.func f) = .func (.func f) #[] #[]) : (execOp ev { dst := some 39, op := Op.call { callee := Callee.value (Operand.func 44), args := #[Operand.tmp 22, Operand.tmp 23, Operand.tmp 38], argTypes := #[5, 3, 4] }, type := 5, pos := zp, after := #[{ on := 4, ground := Ground.data }, { on := 5, ground := Ground.data }, { on := 20, ground := Ground.data }, { on := 18, ground := Ground.chain }], guard := none }).run Try.prog w = .ok (.enter 44 #[x22, x23, x38]) w := by
  first | (go_simp; done) | (simp [execOp, go_sem, *]; done) | (go_simp; trace_state)
end
set_option maxHeartbeats 4000000 in
theorem lnF {wc : World} {B k : Nat} {x tt ee y : Int} {b : Bool} (K : ∀ w', Below wc.heap.size wc w' → w'.cell? ⟨B, 102, none⟩ = some (.int .u8 x)) (KF : ∀ w', Below wc.heap.size wc w' → w'.frozen? ⟨B, 102, none⟩ = false) (K8 : ∀ w', Below wc.heap.size wc w' → w'.cell? ⟨B, 98, none⟩ = some (.int .u8 tt)) (K9 : ∀ w', Below wc.heap.size wc w' → w'.cell? ⟨B, 99, none⟩ = some (.int .u8 ee)) (C1 : ∀ w', Calls Try.prog 45 #[.int .u8 tt, .int .i64 k] w' (Says w' (.bool false))) (C3 : ∀ w', Calls Try.prog 44 #[.int .u8 x, .int .i64 k, .bool false] w' (Says w' (.int .u8 y))) (xs : List Value) (df : List Deferred) (hl : xs.length = 44) (x0 : xs[0]? = some (.pointer (some ⟨B, 0, none⟩))) (x2 : xs[2]? = some (.int .i64 k))
    (Q : Exit → Act → World → Prop) (hQ : ∀ us w', Below wc.heap.size wc w' → Q .normal ⟨(fill ((lnOps zp).filterMap (·.dst)) us 0 xs).toArray, df⟩ (w'.setCell ⟨B, 102, none⟩ (.int .u8 y))) :
    (Code.region 6 (lnOps zp).toArray true).wp Try.prog Q ⟨xs.toArray, df⟩ wc := by
  refine wp_region_tail (C := fun w' => Below wc.heap.size wc w') (S := lnS0 B k x tt ee y b) (Ev := fun _ _ => True) 24 ({ dst := none, op := Op.store 5 (Operand.tmp 41) (Operand.tmp 39), type := 0, pos := zp, after := #[{ on := 23, ground := Ground.data }, { on := 21, ground := Ground.data }, { on := 21, ground := Ground.chain }, { on := 0, ground := Ground.phase }, { on := 1, ground := Ground.phase }, { on := 2, ground := Ground.phase }, { on := 3, ground := Ground.phase }, { on := 4, ground := Ground.phase }, { on := 5, ground := Ground.phase }, { on := 6, ground := Ground.phase }, { on := 7, ground := Ground.phase }, { on := 8, ground := Ground.phase }, { on := 9, ground := Ground.phase }, { on := 10, ground := Ground.phase }, { on := 11, ground := Ground.phase }, { on := 12, ground := Ground.phase }, { on := 13, ground := Ground.phase }, { on := 14, ground := Ground.phase }, { on := 15, ground := Ground.phase }, { on := 16, ground := Ground.phase }, { on := 17, ground := Ground.phase }, { on := 18, ground := Ground.phase }, { on := 19, ground := Ground.phase }, { on := 20, ground := Ground.phase }, { on := 21, ground := Ground.phase }], guard := none }) rfl rfl rfl (by kernel_rfl) (by kernel_rfl) (by kernel_rfl) ?_ (belowD (Below.refl _ _)) ?_ ?_
  · intro i z_ vs w1 w2 h _
    match i, h with
    | 0, h => exact h
    | 1, h => exact h
    | 2, h => exact h
    | 3, h => exact h
    | 4, h => exact h
    | 5, h => exact h
    | 6, h => exact h
    | 7, h => exact h
    | 8, h => exact h
    | 9, h => exact h
    | 10, h => exact h
    | 11, h => exact h
    | 12, h => exact h
    | 13, h => exact h
    | 14, h => exact h
    | 15, h => exact h
    | 16, h => exact h
    | 17, h => exact h
    | 18, h => exact h
    | 19, h => exact h
    | 20, h => exact h
    | 21, h => exact h
    | 22, h => exact h
    | 23, h => exact h
    | _ + 24, h => exact trivial
  · refine And.intro (fun us w' hw hd => ?_) ?_
    · exact stepOf_plain rfl (opw (lnF_0 (B := B) (k := k) (x := x) (tt := tt) (ee := ee) (y := y) (b := b) (h0 := (fill_else _ us xs df 0 _ x0 rfl))) ⟨_, rfl, hw, rfl, trivial⟩)
    refine And.intro (fun us w' hw hd => ?_) ?_
    · exact stepOf_plain rfl (opw (lnF_1 (B := B) (k := k) (x := x) (tt := tt) (ee := ee) (y := y) (b := b) (h0 := (fill_else _ us xs df 0 _ x0 rfl))) ⟨_, rfl, hw, rfl, trivial⟩)
    refine And.intro (fun us w' hw hd => ?_) ?_
    · have h19 : us 19 = .pointer (some ⟨B, 0, none⟩) := hd.1 rfl
      exact stepOf_plain rfl (opw (lnF_2 (B := B) (k := k) (x := x) (tt := tt) (ee := ee) (y := y) (b := b) (h19 := ((fill_slot _ us xs df 19 (by omega) rfl).trans h19))) ⟨_, rfl, hw, rfl, trivial⟩)
    refine And.intro (fun us w' hw hd => ?_) ?_
    · have h20 : us 20 = .pointer (some ⟨B, 0, none⟩) := hd.1 rfl
      exact stepOf_plain rfl (opw (lnF_3 (B := B) (k := k) (x := x) (tt := tt) (ee := ee) (y := y) (b := b) (h20 := ((fill_slot _ us xs df 20 (by omega) rfl).trans h20))) ⟨_, rfl, hw, rfl, trivial⟩)
    refine And.intro (fun us w' hw hd => ?_) ?_
    · have h21 : us 21 = .pointer (some ⟨B, 102, none⟩) := hd.1 rfl
      exact stepOf_plain rfl (opw (lnF_4 (B := B) (k := k) (x := x) (tt := tt) (ee := ee) (y := y) (b := b) (h21 := ((fill_slot _ us xs df 21 (by omega) rfl).trans h21)) (c := (K w' hw))) ⟨_, rfl, hw, rfl, trivial⟩)
    refine And.intro (fun us w' hw hd => ?_) ?_
    · exact stepOf_plain rfl (opw (lnF_5 (B := B) (k := k) (x := x) (tt := tt) (ee := ee) (y := y) (b := b) (h2 := (fill_else _ us xs df 2 _ x2 rfl))) ⟨_, rfl, hw, rfl, trivial⟩)
    refine And.intro (fun us w' hw hd => ?_) ?_
    · exact stepOf_plain rfl (opw (lnF_6 (B := B) (k := k) (x := x) (tt := tt) (ee := ee) (y := y) (b := b) (h0 := (fill_else _ us xs df 0 _ x0 rfl))) ⟨_, rfl, hw, rfl, trivial⟩)
    refine And.intro (fun us w' hw hd => ?_) ?_
    · have h24 : us 24 = .pointer (some ⟨B, 0, none⟩) := hd.1 rfl
      exact stepOf_plain rfl (opw (lnF_7 (B := B) (k := k) (x := x) (tt := tt) (ee := ee) (y := y) (b := b) (h24 := ((fill_slot _ us xs df 24 (by omega) rfl).trans h24))) ⟨_, rfl, hw, rfl, trivial⟩)
    refine And.intro (fun us w' hw hd => ?_) ?_
    · have h25 : us 25 = .pointer (some ⟨B, 0, none⟩) := hd.1 rfl
      exact stepOf_plain rfl (opw (lnF_8 (B := B) (k := k) (x := x) (tt := tt) (ee := ee) (y := y) (b := b) (h25 := ((fill_slot _ us xs df 25 (by omega) rfl).trans h25))) ⟨_, rfl, hw, rfl, trivial⟩)
    refine And.intro (fun us w' hw hd => ?_) ?_
    · have h26 : us 26 = .pointer (some ⟨B, 98, none⟩) := hd.1 rfl
      exact stepOf_plain rfl (opw (lnF_9 (B := B) (k := k) (x := x) (tt := tt) (ee := ee) (y := y) (b := b) (h26 := ((fill_slot _ us xs df 26 (by omega) rfl).trans h26)) (c := (K8 w' hw))) ⟨_, rfl, hw, rfl, trivial⟩)
    refine And.intro (fun us w' hw hd => ?_) ?_
    · exact stepOf_plain rfl (opw (lnF_10 (B := B) (k := k) (x := x) (tt := tt) (ee := ee) (y := y) (b := b) (h2 := (fill_else _ us xs df 2 _ x2 rfl))) ⟨_, rfl, hw, rfl, trivial⟩)
    refine And.intro (fun us w' hw hd => ?_) ?_
    · have h27 : us 27 = .int .u8 tt := hd.1 rfl
      have h28 : us 28 = .int .i64 k := hd.2.1 rfl
      refine stepOf_plain rfl (opw_call (lnF_11 (h27 := ((fill_slot _ us xs df 27 (by omega) rfl).trans h27)) (h28 := ((fill_slot _ us xs df 28 (by omega) rfl).trans h28)) (hf := fun _ => rfl)) ?_)
      refine (C1 w').mono ?_
      rintro e' w2 ⟨rfl, b2⟩
      exact ⟨_, rfl, _, rfl, belowStep hw b2, rfl, trivial⟩
    refine And.intro (fun us w' hw hd => ?_) ?_
    · have h29 : us 29 = .bool false := hd.1 rfl
      exact stepOf_plain rfl (opw (lnF_12 (B := B) (k := k) (x := x) (tt := tt) (ee := ee) (y := y) (b := b) (h29 := ((fill_slot _ us xs df 29 (by omega) rfl).trans h29))) ⟨_, rfl, hw, rfl, trivial⟩)
    refine And.intro (fun us w' hw hd => ?_) ?_
    · have h30 : us 30 = .bool false := hd.1 rfl
      have hg : Region.wanted { dst := some 31, op := Op.move (Operand.tmp 0), type := 47, pos := zp, after := #[{ on := 12, ground := Ground.guard }], guard := some (12, true) } (yielded (lnOps zp).toArray (fill ((lnOps zp).filterMap (·.dst)) us 0 xs).toArray) = false := by
        show (yielded (lnOps zp).toArray (fill ((lnOps zp).filterMap (·.dst)) us 0 xs).toArray 12 == some true) = false
        rw [tl_guard (lnOps zp) us xs 12 30 false rfl rfl (by omega) h30]; rfl
      exact stepOf_no hg ⟨_, rfl, hw, trivial, trivial⟩
    refine And.intro (fun us w' hw hd => ?_) ?_
    · have h30 : us 30 = .bool false := hd.2.1 rfl
      have hg : Region.wanted { dst := some 32, op := Op.nilCheck (Operand.tmp 31), type := 0, pos := zp, after := #[{ on := 13, ground := Ground.data }, { on := 12, ground := Ground.guard }], guard := some (12, true) } (yielded (lnOps zp).toArray (fill ((lnOps zp).filterMap (·.dst)) us 0 xs).toArray) = false := by
        show (yielded (lnOps zp).toArray (fill ((lnOps zp).filterMap (·.dst)) us 0 xs).toArray 12 == some true) = false
        rw [tl_guard (lnOps zp) us xs 12 30 false rfl rfl (by omega) h30]; rfl
      exact stepOf_no hg ⟨_, rfl, hw, trivial, trivial⟩
    refine And.intro (fun us w' hw hd => ?_) ?_
    · have h30 : us 30 = .bool false := hd.2.1 rfl
      have hg : Region.wanted { dst := some 33, op := Op.fieldAddr 51 (Operand.tmp 32) 4, type := 0, pos := zp, after := #[{ on := 14, ground := Ground.data }, { on := 12, ground := Ground.guard }], guard := some (12, true) } (yielded (lnOps zp).toArray (fill ((lnOps zp).filterMap (·.dst)) us 0 xs).toArray) = false := by
        show (yielded (lnOps zp).toArray (fill ((lnOps zp).filterMap (·.dst)) us 0 xs).toArray 12 == some true) = false
        rw [tl_guard (lnOps zp) us xs 12 30 false rfl rfl (by omega) h30]; rfl
      exact stepOf_no hg ⟨_, rfl, hw, trivial, trivial⟩
    refine And.intro (fun us w' hw hd => ?_) ?_
    · have h30 : us 30 = .bool false := hd.2.1 rfl
      have hg : Region.wanted { dst := some 34, op := Op.load 5 (Operand.tmp 33), type := 5, pos := zp, after := #[{ on := 15, ground := Ground.data }, { on := 12, ground := Ground.guard }], guard := some (12, true) } (yielded (lnOps zp).toArray (fill ((lnOps zp).filterMap (·.dst)) us 0 xs).toArray) = false := by
        show (yielded (lnOps zp).toArray (fill ((lnOps zp).filterMap (·.dst)) us 0 xs).toArray 12 == some true) = false
        rw [tl_guard (lnOps zp) us xs 12 30 false rfl rfl (by omega) h30]; rfl
      exact stepOf_no hg ⟨_, rfl, hw, trivial, trivial⟩
    refine And.intro (fun us w' hw hd => ?_) ?_
    · have h30 : us 30 = .bool false := hd.1 rfl
      have hg : Region.wanted { dst := some 35, op := Op.move (Operand.tmp 2), type := 3, pos := zp, after := #[{ on := 12, ground := Ground.guard }], guard := some (12, true) } (yielded (lnOps zp).toArray (fill ((lnOps zp).filterMap (·.dst)) us 0 xs).toArray) = false := by
        show (yielded (lnOps zp).toArray (fill ((lnOps zp).filterMap (·.dst)) us 0 xs).toArray 12 == some true) = false
        rw [tl_guard (lnOps zp) us xs 12 30 false rfl rfl (by omega) h30]; rfl
      exact stepOf_no hg ⟨_, rfl, hw, trivial, trivial⟩
    refine And.intro (fun us w' hw hd => ?_) ?_
    · have h30 : us 30 = .bool false := hd.2.2.1 rfl
      have hg : Region.wanted { dst := some 36, op := Op.call { callee := Callee.value (Operand.func 45), args := #[Operand.tmp 34, Operand.tmp 35], argTypes := #[5, 3] }, type := 4, pos := zp, after := #[{ on := 16, ground := Ground.data }, { on := 17, ground := Ground.data }, { on := 12, ground := Ground.chain }, { on := 12, ground := Ground.guard }], guard := some (12, true) } (yielded (lnOps zp).toArray (fill ((lnOps zp).filterMap (·.dst)) us 0 xs).toArray) = false := by
        show (yielded (lnOps zp).toArray (fill ((lnOps zp).filterMap (·.dst)) us 0 xs).toArray 12 == some true) = false
        rw [tl_guard (lnOps zp) us xs 12 30 false rfl rfl (by omega) h30]; rfl
      exact stepOf_no hg ⟨_, rfl, hw, trivial, trivial⟩
    refine And.intro (fun us w' hw hd => ?_) ?_
    · have h30 : us 30 = .bool false := hd.2.1 rfl
      have hg : Region.wanted { dst := some 37, op := Op.unOp UnOp.not 4 (Operand.tmp 36), type := 4, pos := zp, after := #[{ on := 18, ground := Ground.data }, { on := 12, ground := Ground.guard }], guard := some (12, true) } (yielded (lnOps zp).toArray (fill ((lnOps zp).filterMap (·.dst)) us 0 xs).toArray) = false := by
        show (yielded (lnOps zp).toArray (fill ((lnOps zp).filterMap (·.dst)) us 0 xs).toArray 12 == some true) = false
        rw [tl_guard (lnOps zp) us xs 12 30 false rfl rfl (by omega) h30]; rfl
      exact stepOf_no hg ⟨_, rfl, hw, trivial, trivial⟩
    refine And.intro (fun us w' hw hd => ?_) ?_
    · have h30 : us 30 = .bool false := hd.1 rfl
      exact stepOf_plain rfl (opw (lnF_20 (B := B) (k := k) (x := x) (tt := tt) (ee := ee) (y := y) (b := b) (h30 := ((fill_slot _ us xs df 30 (by omega) rfl).trans h30)) (hc := fun _ => rfl)) ⟨_, rfl, hw, rfl, trivial⟩)
    refine And.intro (fun us w' hw hd => ?_) ?_
    · have h22 : us 22 = .int .u8 x := hd.1 rfl
      have h23 : us 23 = .int .i64 k := hd.2.1 rfl
      have h38 : us 38 = .bool false := hd.2.2.1 rfl
      refine stepOf_plain rfl (opw_call (lnF_21 (h22 := ((fill_slot _ us xs df 22 (by omega) rfl).trans h22)) (h23 := ((fill_slot _ us xs df 23 (by omega) rfl).trans h23)) (h38 := ((fill_slot _ us xs df 38 (by omega) rfl).trans h38)) (hf := fun _ => rfl)) ?_)
      refine (C3 w').mono ?_
      rintro e' w2 ⟨rfl, b2⟩
      exact ⟨_, rfl, _, rfl, belowStep hw b2, rfl, trivial⟩
    refine And.intro (fun us w' hw hd => ?_) ?_
    · have h18 : us 18 = .pointer (some ⟨B, 0, none⟩) := hd.1 rfl
      exact stepOf_plain rfl (opw (lnF_22 (B := B) (k := k) (x := x) (tt := tt) (ee := ee) (y := y) (b := b) (h18 := ((fill_slot _ us xs df 18 (by omega) rfl).trans h18))) ⟨_, rfl, hw, rfl, trivial⟩)
    refine And.intro (fun us w' hw hd => ?_) ?_
    · have h40 : us 40 = .pointer (some ⟨B, 0, none⟩) := hd.1 rfl
      exact stepOf_plain rfl (opw (lnF_23 (B := B) (k := k) (x := x) (tt := tt) (ee := ee) (y := y) (b := b) (h40 := ((fill_slot _ us xs df 40 (by omega) rfl).trans h40))) ⟨_, rfl, hw, rfl, trivial⟩)
    exact trivial
  · intro us w' hw ha
    have h41 : us 41 = .pointer (some ⟨B, 102, none⟩) := ha.2.2.2.2.2.2.2.2.2.2.2.2.2.2.2.2.2.2.2.2.2.2.2.1
    have h39 : us 39 = .int .u8 y := ha.2.2.2.2.2.2.2.2.2.2.2.2.2.2.2.2.2.2.2.2.2.1
    exact opw_skip (lnF_24 (B := B) (k := k) (x := x) (tt := tt) (ee := ee) (y := y) (b := b) (h41 := (fill_slot ((lnOps zp).filterMap (·.dst)) us xs df 41 (by omega) rfl).trans h41) (h39 := (fill_slot ((lnOps zp).filterMap (·.dst)) us xs df 39 (by omega) rfl).trans h39) (cw := ⟨_, (K w' hw)⟩) (fw := (KF w' hw))) (hQ us w' hw)
end Go.Proofs.Ytkeikkkcmackeaa
