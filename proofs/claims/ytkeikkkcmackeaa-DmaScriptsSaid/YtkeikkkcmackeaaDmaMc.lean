/- dma, the document's regions that draw and end in a store: each operation looked at once. -/
import Derived.Test.YtkeikkkcmackeaaDmaMa
import Derived.Test.YtkeikkkcmackeaaTail
namespace Go.Proofs.Ytkeikkkcmackeaa
open Go.RowKit
set_option linter.unusedVariables false
set_option linter.unusedSimpArgs false
set_option maxRecDepth 100000
theorem opw {P : Program} {o : Oper} {a : Act} {w w' : World} {K : Act → World → Prop} {Q : Exit → Act → World → Prop} {v : Value} (h : (execOp a.eval o).run P w = .ok (.value v) w') (k : K (a.put o.dst v) w') : o.wp P a w K Q := by
  unfold Oper.wp
  rw [h]; exact k
theorem opw_skip {P : Program} {o : Oper} {a : Act} {w w' : World} {K : Act → World → Prop} {Q : Exit → Act → World → Prop} (h : (execOp a.eval o).run P w = .ok .skip w') (k : K (a.put o.dst undef) w') : o.wp P a w K Q := by
  unfold Oper.wp
  rw [h]; exact k
theorem opw_call {P : Program} {o : Oper} {a : Act} {w w' : World} {K : Act → World → Prop} {Q : Exit → Act → World → Prop} {f : FuncId} {args : Array Value} (h : (execOp a.eval o).run P w = .ok (.enter f args) w')
    (k : Calls P f args w' (fun e w'' => ∃ v, e = .returned v ∧ K (a.put o.dst v) w'')) : o.wp P a w K Q := by
  unfold Oper.wp
  rw [h, Oper.upon_enter]
  refine k.mono ?_
  rintro e w'' ⟨v, rfl, hk⟩
  exact hk
theorem fill_slot (ds : List Nat) (us : Nat → Value) (xs : List Value) (df : List Deferred) (k : Nat) (hk : k < xs.length) (hd : ds.contains k = true) : (⟨(fill ds us 0 xs).toArray, df⟩ : Act).eval (.tmp k) = us k := by
  show ((fill ds us 0 xs).toArray).getD k undef = us k
  rw [Array.getD_eq_getD_getElem?, List.getElem?_toArray, fill_at, List.getElem?_eq_getElem hk]
  simp [show k ∈ ds by simpa using hd]
theorem fill_else (ds : List Nat) (us : Nat → Value) (xs : List Value) (df : List Deferred) (k : Nat) (v : Value) (hk : xs[k]? = some v) (hd : ds.contains k = false) : (⟨(fill ds us 0 xs).toArray, df⟩ : Act).eval (.tmp k) = v := by
  show ((fill ds us 0 xs).toArray).getD k undef = v
  rw [Array.getD_eq_getD_getElem?, List.getElem?_toArray, fill_at, hk]
  simp [show ¬ k ∈ ds by simpa using hd]
theorem tl_guard (ops : List Oper) (us : Nat → Value) (xs : List Value) (i k : Nat) (b : Bool) (hk : (ops[i]?).bind (·.dst) = some k) (hd : (ops.filterMap (·.dst)).contains k = true) (hN : k < xs.length) (h : us k = .bool b) :
    yielded ops.toArray (fill (ops.filterMap (·.dst)) us 0 xs).toArray i = some b := by
  unfold yielded
  rw [List.getElem?_toArray, hk]
  show (match (fill (ops.filterMap (·.dst)) us 0 xs).toArray[k]? with | some (.bool b) => some b | _ => none) = some b
  rw [List.getElem?_toArray, fill_at, List.getElem?_eq_getElem hN]
  simp only [Nat.zero_add, Option.map_some, hd, if_true, h]
def goOps (zp : String) : List Oper := [
  { dst := some 24, op := Op.move (Operand.tmp 0), type := 47, pos := zp, after := #[], guard := none },
  { dst := some 25, op := Op.move (Operand.tmp 0), type := 47, pos := zp, after := #[], guard := none },
  { dst := some 26, op := Op.nilCheck (Operand.tmp 25), type := 0, pos := zp, after := #[{ on := 1, ground := Ground.data }], guard := none },
  { dst := some 27, op := Op.fieldAddr 51 (Operand.tmp 26) 1, type := 0, pos := zp, after := #[{ on := 2, ground := Ground.data }], guard := none },
  { dst := some 28, op := Op.load 5 (Operand.tmp 27), type := 5, pos := zp, after := #[{ on := 3, ground := Ground.data }], guard := none },
  { dst := some 29, op := Op.move (Operand.tmp 7), type := 3, pos := zp, after := #[], guard := none },
  { dst := some 30, op := Op.move (Operand.tmp 0), type := 47, pos := zp, after := #[], guard := none },
  { dst := some 31, op := Op.nilCheck (Operand.tmp 30), type := 0, pos := zp, after := #[{ on := 6, ground := Ground.data }], guard := none },
  { dst := some 32, op := Op.fieldAddr 51 (Operand.tmp 31) 1, type := 0, pos := zp, after := #[{ on := 7, ground := Ground.data }], guard := none },
  { dst := some 33, op := Op.load 5 (Operand.tmp 32), type := 5, pos := zp, after := #[{ on := 8, ground := Ground.data }], guard := none },
  { dst := some 34, op := Op.move (Operand.tmp 7), type := 3, pos := zp, after := #[], guard := none },
  { dst := some 35, op := Op.call { callee := Callee.value (Operand.func 45), args := #[Operand.tmp 33, Operand.tmp 34], argTypes := #[5, 3] }, type := 4, pos := zp, after := #[{ on := 9, ground := Ground.data }, { on := 10, ground := Ground.data }], guard := none },
  { dst := some 36, op := Op.move (Operand.tmp 35), type := 4, pos := zp, after := #[{ on := 11, ground := Ground.data }, { on := 11, ground := Ground.chain }], guard := none },
  { dst := some 37, op := Op.move (Operand.tmp 2), type := 5, pos := zp, after := #[{ on := 12, ground := Ground.guard }], guard := some (12, false) },
  { dst := some 38, op := Op.move (Operand.tmp 7), type := 3, pos := zp, after := #[{ on := 12, ground := Ground.guard }], guard := some (12, false) },
  { dst := some 39, op := Op.call { callee := Callee.value (Operand.func 45), args := #[Operand.tmp 37, Operand.tmp 38], argTypes := #[5, 3] }, type := 4, pos := zp, after := #[{ on := 13, ground := Ground.data }, { on := 14, ground := Ground.data }, { on := 12, ground := Ground.chain }, { on := 12, ground := Ground.guard }], guard := some (12, false) },
  { dst := some 40, op := Op.pick (Operand.tmp 36) (Operand.const (Value.bool true)) (Operand.tmp 39), type := 4, pos := zp, after := #[{ on := 12, ground := Ground.data }, { on := 15, ground := Ground.data }], guard := none },
  { dst := some 41, op := Op.call { callee := Callee.value (Operand.func 44), args := #[Operand.tmp 28, Operand.tmp 29, Operand.tmp 40], argTypes := #[5, 3, 4] }, type := 5, pos := zp, after := #[{ on := 4, ground := Ground.data }, { on := 5, ground := Ground.data }, { on := 16, ground := Ground.data }, { on := 15, ground := Ground.chain }], guard := none },
  { dst := some 42, op := Op.nilCheck (Operand.tmp 24), type := 0, pos := zp, after := #[{ on := 0, ground := Ground.data }, { on := 0, ground := Ground.phase }, { on := 1, ground := Ground.phase }, { on := 2, ground := Ground.phase }, { on := 3, ground := Ground.phase }, { on := 4, ground := Ground.phase }, { on := 5, ground := Ground.phase }, { on := 6, ground := Ground.phase }, { on := 7, ground := Ground.phase }, { on := 8, ground := Ground.phase }, { on := 9, ground := Ground.phase }, { on := 10, ground := Ground.phase }, { on := 11, ground := Ground.phase }, { on := 12, ground := Ground.phase }, { on := 13, ground := Ground.phase }, { on := 14, ground := Ground.phase }, { on := 15, ground := Ground.phase }, { on := 16, ground := Ground.phase }, { on := 17, ground := Ground.phase }], guard := none },
  { dst := some 43, op := Op.fieldAddr 51 (Operand.tmp 42) 1, type := 0, pos := zp, after := #[{ on := 18, ground := Ground.data }, { on := 0, ground := Ground.phase }, { on := 1, ground := Ground.phase }, { on := 2, ground := Ground.phase }, { on := 3, ground := Ground.phase }, { on := 4, ground := Ground.phase }, { on := 5, ground := Ground.phase }, { on := 6, ground := Ground.phase }, { on := 7, ground := Ground.phase }, { on := 8, ground := Ground.phase }, { on := 9, ground := Ground.phase }, { on := 10, ground := Ground.phase }, { on := 11, ground := Ground.phase }, { on := 12, ground := Ground.phase }, { on := 13, ground := Ground.phase }, { on := 14, ground := Ground.phase }, { on := 15, ground := Ground.phase }, { on := 16, ground := Ground.phase }, { on := 17, ground := Ground.phase }], guard := none },
  { dst := none, op := Op.store 5 (Operand.tmp 43) (Operand.tmp 41), type := 0, pos := zp, after := #[{ on := 19, ground := Ground.data }, { on := 17, ground := Ground.data }, { on := 17, ground := Ground.chain }, { on := 0, ground := Ground.phase }, { on := 1, ground := Ground.phase }, { on := 2, ground := Ground.phase }, { on := 3, ground := Ground.phase }, { on := 4, ground := Ground.phase }, { on := 5, ground := Ground.phase }, { on := 6, ground := Ground.phase }, { on := 7, ground := Ground.phase }, { on := 8, ground := Ground.phase }, { on := 9, ground := Ground.phase }, { on := 10, ground := Ground.phase }, { on := 11, ground := Ground.phase }, { on := 12, ground := Ground.phase }, { on := 13, ground := Ground.phase }, { on := 14, ground := Ground.phase }, { on := 15, ground := Ground.phase }, { on := 16, ground := Ground.phase }, { on := 17, ground := Ground.phase }], guard := none }]
variable {zp : String}
theorem goOps_dst : (goOps zp).filterMap (·.dst) = [24, 25, 26, 27, 28, 29, 30, 31, 32, 33, 34, 35, 36, 37, 38, 39, 40, 41, 42, 43] := rfl
def goS0 (B k : Nat) (x vv y : Int) (b : Bool) : Nat → Value → List Value → World → Prop
  | 0, z_, _, _ => z_ = .pointer (some ⟨B, 0, none⟩)
  | 1, z_, _, _ => z_ = .pointer (some ⟨B, 0, none⟩)
  | 2, z_, _, _ => z_ = .pointer (some ⟨B, 0, none⟩)
  | 3, z_, _, _ => z_ = .pointer (some ⟨B, 96, none⟩)
  | 4, z_, _, _ => z_ = .int .u8 x
  | 5, z_, _, _ => z_ = .int .i64 k
  | 6, z_, _, _ => z_ = .pointer (some ⟨B, 0, none⟩)
  | 7, z_, _, _ => z_ = .pointer (some ⟨B, 0, none⟩)
  | 8, z_, _, _ => z_ = .pointer (some ⟨B, 96, none⟩)
  | 9, z_, _, _ => z_ = .int .u8 x
  | 10, z_, _, _ => z_ = .int .i64 k
  | 11, z_, _, _ => z_ = .bool false
  | 12, z_, _, _ => z_ = .bool false
  | 13, z_, _, _ => z_ = .int .u8 vv
  | 14, z_, _, _ => z_ = .int .i64 k
  | 15, z_, _, _ => z_ = .bool b
  | 16, z_, _, _ => z_ = .bool b
  | 17, z_, _, _ => z_ = .int .u8 y
  | 18, z_, _, _ => z_ = .pointer (some ⟨B, 0, none⟩)
  | 19, z_, _, _ => z_ = .pointer (some ⟨B, 96, none⟩)
  | _, _, _, _ => True
section
variable {ev : Operand → Value} {w : World}
theorem goF_0 (B k : Nat) (x vv y : Int) (b : Bool) (h0 : ev (.tmp 0) = .pointer (some ⟨B, 0, none⟩)) : (execOp ev { dst := some 24, op := Op.move (Operand.tmp 0), type := 47, pos := zp, after := #[], guard := none }).run Try.prog w = .ok (.value (.pointer (some ⟨B, 0, none⟩))) w := by
  first | (go_simp; done) | (simp [execOp, go_sem, *]; done) | (go_simp; trace_state)
theorem goF_1 (B k : Nat) (x vv y : Int) (b : Bool) (h0 : ev (.tmp 0) = .pointer (some ⟨B, 0, none⟩)) : (execOp ev { dst := some 25, op := Op.move (Operand.tmp 0), type := 47, pos := zp, after := #[], guard := none }).run Try.prog w = .ok (.value (.pointer (some ⟨B, 0, none⟩))) w := by
  first | (go_simp; done) | (simp [execOp, go_sem, *]; done) | (go_simp; trace_state)
theorem goF_2 (B k : Nat) (x vv y : Int) (b : Bool) (h25 : ev (.tmp 25) = .pointer (some ⟨B, 0, none⟩)) : (execOp ev { dst := some 26, op := Op.nilCheck (Operand.tmp 25), type := 0, pos := zp, after := #[{ on := 1, ground := Ground.data }], guard := none }).run Try.prog w = .ok (.value (.pointer (some ⟨B, 0, none⟩))) w := by
  first | (go_simp; done) | (simp [execOp, go_sem, *]; done) | (go_simp; trace_state)
theorem goF_3 (B k : Nat) (x vv y : Int) (b : Bool) (h26 : ev (.tmp 26) = .pointer (some ⟨B, 0, none⟩)) : (execOp ev { dst := some 27, op := Op.fieldAddr 51 (Operand.tmp 26) 1, type := 0, pos := zp, after := #[{ on := 2, ground := Ground.data }], guard := none }).run Try.prog w = .ok (.value (.pointer (some ⟨B, 96, none⟩))) w := by
  first | (go_simp; done) | (simp [execOp, go_sem, *]; done) | (go_simp; trace_state)
theorem goF_4 (B k : Nat) (x vv y : Int) (b : Bool) (h27 : ev (.tmp 27) = .pointer (some ⟨B, 96, none⟩)) (c : w.cell? ⟨B, 96, none⟩ = some (.int .u8 x)) : (execOp ev { dst := some 28, op := Op.load 5 (Operand.tmp 27), type := 5, pos := zp, after := #[{ on := 3, ground := Ground.data }], guard := none }).run Try.prog w = .ok (.value (.int .u8 x)) w := by
  first | (go_simp; done) | (simp [execOp, go_sem, *]; done) | (go_simp; trace_state)
theorem goF_5 (B k : Nat) (x vv y : Int) (b : Bool) (h7 : ev (.tmp 7) = .int .i64 k) : (execOp ev { dst := some 29, op := Op.move (Operand.tmp 7), type := 3, pos := zp, after := #[], guard := none }).run Try.prog w = .ok (.value (.int .i64 k)) w := by
  first | (go_simp; done) | (simp [execOp, go_sem, *]; done) | (go_simp; trace_state)
theorem goF_6 (B k : Nat) (x vv y : Int) (b : Bool) (h0 : ev (.tmp 0) = .pointer (some ⟨B, 0, none⟩)) : (execOp ev { dst := some 30, op := Op.move (Operand.tmp 0), type := 47, pos := zp, after := #[], guard := none }).run Try.prog w = .ok (.value (.pointer (some ⟨B, 0, none⟩))) w := by
  first | (go_simp; done) | (simp [execOp, go_sem, *]; done) | (go_simp; trace_state)
theorem goF_7 (B k : Nat) (x vv y : Int) (b : Bool) (h30 : ev (.tmp 30) = .pointer (some ⟨B, 0, none⟩)) : (execOp ev { dst := some 31, op := Op.nilCheck (Operand.tmp 30), type := 0, pos := zp, after := #[{ on := 6, ground := Ground.data }], guard := none }).run Try.prog w = .ok (.value (.pointer (some ⟨B, 0, none⟩))) w := by
  first | (go_simp; done) | (simp [execOp, go_sem, *]; done) | (go_simp; trace_state)
theorem goF_8 (B k : Nat) (x vv y : Int) (b : Bool) (h31 : ev (.tmp 31) = .pointer (some ⟨B, 0, none⟩)) : (execOp ev { dst := some 32, op := Op.fieldAddr 51 (Operand.tmp 31) 1, type := 0, pos := zp, after := #[{ on := 7, ground := Ground.data }], guard := none }).run Try.prog w = .ok (.value (.pointer (some ⟨B, 96, none⟩))) w := by
  first | (go_simp; done) | (simp [execOp, go_sem, *]; done) | (go_simp; trace_state)
theorem goF_9 (B k : Nat) (x vv y : Int) (b : Bool) (h32 : ev (.tmp 32) = .pointer (some ⟨B, 96, none⟩)) (c : w.cell? ⟨B, 96, none⟩ = some (.int .u8 x)) : (execOp ev { dst := some 33, op := Op.load 5 (Operand.tmp 32), type := 5, pos := zp, after := #[{ on := 8, ground := Ground.data }], guard := none }).run Try.prog w = .ok (.value (.int .u8 x)) w := by
  first | (go_simp; done) | (simp [execOp, go_sem, *]; done) | (go_simp; trace_state)
theorem goF_10 (B k : Nat) (x vv y : Int) (b : Bool) (h7 : ev (.tmp 7) = .int .i64 k) : (execOp ev { dst := some 34, op := Op.move (Operand.tmp 7), type := 3, pos := zp, after := #[], guard := none }).run Try.prog w = .ok (.value (.int .i64 k)) w := by
  first | (go_simp; done) | (simp [execOp, go_sem, *]; done) | (go_simp; trace_state)
theorem goF_12 (B k : Nat) (x vv y : Int) (b : Bool) (h35 : ev (.tmp 35) = .bool false) : (execOp ev { dst := some 36, op := Op.move (Operand.tmp 35), type := 4, pos := zp, after := #[{ on := 11, ground := Ground.data }, { on := 11, ground := Ground.chain }], guard := none }).run Try.prog w = .ok (.value (.bool false)) w := by
  first | (go_simp; done) | (simp [execOp, go_sem, *]; done) | (go_simp; trace_state)
theorem goF_13 (B k : Nat) (x vv y : Int) (b : Bool) (h2 : ev (.tmp 2) = .int .u8 vv) : (execOp ev { dst := some 37, op := Op.move (Operand.tmp 2), type := 5, pos := zp, after := #[{ on := 12, ground := Ground.guard }], guard := some (12, false) }).run Try.prog w = .ok (.value (.int .u8 vv)) w := by
  first | (go_simp; done) | (simp [execOp, go_sem, *]; done) | (go_simp; trace_state)
theorem goF_14 (B k : Nat) (x vv y : Int) (b : Bool) (h7 : ev (.tmp 7) = .int .i64 k) : (execOp ev { dst := some 38, op := Op.move (Operand.tmp 7), type := 3, pos := zp, after := #[{ on := 12, ground := Ground.guard }], guard := some (12, false) }).run Try.prog w = .ok (.value (.int .i64 k)) w := by
  first | (go_simp; done) | (simp [execOp, go_sem, *]; done) | (go_simp; trace_state)
theorem goF_16 (B k : Nat) (x vv y : Int) (b : Bool) (h36 : ev (.tmp 36) = .bool false) (h39 : ev (.tmp 39) = .bool b) (hc : ∀ v, ev (.const v) = v) : (execOp ev { dst := some 40, op := Op.pick (Operand.tmp 36) (Operand.const (Value.bool true)) (Operand.tmp 39), type := 4, pos := zp, after := #[{ on := 12, ground := Ground.data }, { on := 15, ground := Ground.data }], guard := none }).run Try.prog w = .ok (.value (.bool b)) w := by
  first | (go_simp; done) | (simp [execOp, go_sem, *]; done) | (go_simp; trace_state)
theorem goF_18 (B k : Nat) (x vv y : Int) (b : Bool) (h24 : ev (.tmp 24) = .pointer (some ⟨B, 0, none⟩)) : (execOp ev { dst := some 42, op := Op.nilCheck (Operand.tmp 24), type := 0, pos := zp, after := #[{ on := 0, ground := Ground.data }, { on := 0, ground := Ground.phase }, { on := 1, ground := Ground.phase }, { on := 2, ground := Ground.phase }, { on := 3, ground := Ground.phase }, { on := 4, ground := Ground.phase }, { on := 5, ground := Ground.phase }, { on := 6, ground := Ground.phase }, { on := 7, ground := Ground.phase }, { on := 8, ground := Ground.phase }, { on := 9, ground := Ground.phase }, { on := 10, ground := Ground.phase }, { on := 11, ground := Ground.phase }, { on := 12, ground := Ground.phase }, { on := 13, ground := Ground.phase }, { on := 14, ground := Ground.phase }, { on := 15, ground := Ground.phase }, { on := 16, ground := Ground.phase }, { on := 17, ground := Ground.phase }], guard := none }).run Try.prog w = .ok (.value (.pointer (some ⟨B, 0, none⟩))) w := by
  first | (go_simp; done) | (simp [execOp, go_sem, *]; done) | (go_simp; trace_state)
theorem goF_19 (B k : Nat) (x vv y : Int) (b : Bool) (h42 : ev (.tmp 42) = .pointer (some ⟨B, 0, none⟩)) : (execOp ev { dst := some 43, op := Op.fieldAddr 51 (Operand.tmp 42) 1, type := 0, pos := zp, after := #[{ on := 18, ground := Ground.data }, { on := 0, ground := Ground.phase }, { on := 1, ground := Ground.phase }, { on := 2, ground := Ground.phase }, { on := 3, ground := Ground.phase }, { on := 4, ground := Ground.phase }, { on := 5, ground := Ground.phase }, { on := 6, ground := Ground.phase }, { on := 7, ground := Ground.phase }, { on := 8, ground := Ground.phase }, { on := 9, ground := Ground.phase }, { on := 10, ground := Ground.phase }, { on := 11, ground := Ground.phase }, { on := 12, ground := Ground.phase }, { on := 13, ground := Ground.phase }, { on := 14, ground := Ground.phase }, { on := 15, ground := Ground.phase }, { on := 16, ground := Ground.phase }, { on := 17, ground := Ground.phase }], guard := none }).run Try.prog w = .ok (.value (.pointer (some ⟨B, 96, none⟩))) w := by
  first | (go_simp; done) | (simp [execOp, go_sem, *]; done) | (go_simp; trace_state)
theorem goF_20 (B k : Nat) (x vv y : Int) (b : Bool) (h41 : ev (.tmp 41) = .int .u8 y) (h43 : ev (.tmp 43) = .pointer (some ⟨B, 96, none⟩)) (cw : ∃ u, w.cell? ⟨B, 96, none⟩ = some (.int .u8 u)) (fw : w.frozen? ⟨B, 96, none⟩ = false) : (execOp ev { dst := none, op := Op.store 5 (Operand.tmp 43) (Operand.tmp 41), type := 0, pos := zp, after := #[{ on := 19, ground := Ground.data }, { on := 17, ground := Ground.data }, { on := 17, ground := Ground.chain }, { on := 0, ground := Ground.phase }, { on := 1, ground := Ground.phase }, { on := 2, ground := Ground.phase }, { on := 3, ground := Ground.phase }, { on := 4, ground := Ground.phase }, { on := 5, ground := Ground.phase }, { on := 6, ground := Ground.phase }, { on := 7, ground := Ground.phase }, { on := 8, ground := Ground.phase }, { on := 9, ground := Ground.phase }, { on := 10, ground := Ground.phase }, { on := 11, ground := Ground.phase }, { on := 12, ground := Ground.phase }, { on := 13, ground := Ground.phase }, { on := 14, ground := Ground.phase }, { on := 15, ground := Ground.phase }, { on := 16, ground := Ground.phase }, { on := 17, ground := Ground.phase }], guard := none }).run Try.prog w = .ok .skip (w.setCell ⟨B, 96, none⟩ (.int .u8 y)) := by
  obtain ⟨u, hu⟩ := cw
  go_simp
theorem goF_11 {x33 : Value} (h33 : ev (.tmp 33) = x33) {x34 : Value} (h34 : ev (.tmp 34) = x34) (hf : ∀ f, ev (.func f) = .func (.func f) #[] #[]) : (execOp ev { dst := some 35, op := Op.call { callee := Callee.value (Operand.func 45), args := #[Operand.tmp 33, Operand.tmp 34], argTypes := #[5, 3] }, type := 4, pos := zp, after := #[{ on := 9, ground := Ground.data }, { on := 10, ground := Ground.data }], guard := none }).run Try.prog w = .ok (.enter 45 #[x33, x34]) w := by
  first | (go_simp; done) | (simp [execOp, go_sem, *]; done) | (go_simp; trace_state)
theorem goF_15 {x37 : Value} (h37 : ev (.tmp 37) = x37) {x38 : Value} (h38 : ev (.tmp 38) = x38) (hf : ∀ f, ev (.func f) = .func (.func f) #[] #[]) : (execOp ev { dst := some 39, op := Op.call { callee := Callee.value (Operand.func 45), args := #[Operand.tmp 37, Operand.tmp 38], argTypes := #[5, 3] }, type := 4, pos := zp, after := #[{ on := 13, ground := Ground.data }, { on := 14, ground := Ground.data }, { on := 12, ground := Ground.chain }, { on := 12, ground := Ground.guard }], guard := some (12, false) }).run Try.prog w = .ok (.enter 45 #[x37, x38]) w := by
  first | (go_simp; done) | (simp [execOp, go_sem, *]; done) | (go_simp; trace_state)
theorem goF_17 {x28 : Value} (h28 : ev (.tmp 28) = x28) {x29 : Value} (h29 : ev (.tmp 29) = x29) {x40 : Value} (h40 : ev (.tmp 40) = x40) (hf : ∀ f, ev (.func f) = .func (.func f) #[] #[]) : (execOp ev { dst := some 41, op := Op.call { callee := Callee.value (Operand.func 44), args := #[Operand.tmp 28, Operand.tmp 29, Operand.tmp 40], argTypes := #[5, 3, 4] }, type := 5, pos := zp, after := #[{ on := 4, ground := Ground.data }, { on := 5, ground := Ground.data }, { on := 16, ground := Ground.data }, { on := 15, ground := Ground.chain }], guard := none }).run Try.prog w = .ok (.enter 44 #[x28, x29, x40]) w := by
  first | (go_simp; done) | (simp [execOp, go_sem, *]; done) | (go_simp; trace_state)
end
set_option maxHeartbeats 4000000 in
theorem goF {wc : World} {B k : Nat} {x vv y : Int} {b : Bool} (K : ∀ w', Below wc.heap.size wc w' → w'.cell? ⟨B, 96, none⟩ = some (.int .u8 x)) (KF : ∀ w', Below wc.heap.size wc w' → w'.frozen? ⟨B, 96, none⟩ = false) (C1 : ∀ w', Calls Try.prog 45 #[.int .u8 x, .int .i64 k] w' (Says w' (.bool false))) (C2 : ∀ w', Calls Try.prog 45 #[.int .u8 vv, .int .i64 k] w' (Says w' (.bool b))) (C3 : ∀ w', Calls Try.prog 44 #[.int .u8 x, .int .i64 k, .bool b] w' (Says w' (.int .u8 y))) (xs : List Value) (df : List Deferred) (hl : xs.length = 65) (x0 : xs[0]? = some (.pointer (some ⟨B, 0, none⟩))) (x2 : xs[2]? = some (.int .u8 vv)) (x7 : xs[7]? = some (.int .i64 k))
    (Q : Exit → Act → World → Prop) (hQ : ∀ us w', Below wc.heap.size wc w' → Q .normal ⟨(fill ((goOps zp).filterMap (·.dst)) us 0 xs).toArray, df⟩ (w'.setCell ⟨B, 96, none⟩ (.int .u8 y))) :
    (Code.region 7 (goOps zp).toArray true).wp Try.prog Q ⟨xs.toArray, df⟩ wc := by
  refine wp_region_tail (C := fun w' => Below wc.heap.size wc w') (S := goS0 B k x vv y b) (Ev := fun _ _ => True) 20 ({ dst := none, op := Op.store 5 (Operand.tmp 43) (Operand.tmp 41), type := 0, pos := zp, after := #[{ on := 19, ground := Ground.data }, { on := 17, ground := Ground.data }, { on := 17, ground := Ground.chain }, { on := 0, ground := Ground.phase }, { on := 1, ground := Ground.phase }, { on := 2, ground := Ground.phase }, { on := 3, ground := Ground.phase }, { on := 4, ground := Ground.phase }, { on := 5, ground := Ground.phase }, { on := 6, ground := Ground.phase }, { on := 7, ground := Ground.phase }, { on := 8, ground := Ground.phase }, { on := 9, ground := Ground.phase }, { on := 10, ground := Ground.phase }, { on := 11, ground := Ground.phase }, { on := 12, ground := Ground.phase }, { on := 13, ground := Ground.phase }, { on := 14, ground := Ground.phase }, { on := 15, ground := Ground.phase }, { on := 16, ground := Ground.phase }, { on := 17, ground := Ground.phase }], guard := none }) rfl rfl rfl (by kernel_rfl) (by kernel_rfl) (by kernel_rfl) ?_ (belowD (Below.refl _ _)) ?_ ?_
  · intro i z_ vs w1 w2 h _
    match i, h with
    | 0, h => exact h
    | 1, h => exact h
    | 2, h => exact h
    | 3, h => exact h
    | 4, h => exact h
    | 5, h => exact h
    | 6, h => exact h
    | 7, h => exact h
    | 8, h => exact h
    | 9, h => exact h
    | 10, h => exact h
    | 11, h => exact h
    | 12, h => exact h
    | 13, h => exact h
    | 14, h => exact h
    | 15, h => exact h
    | 16, h => exact h
    | 17, h => exact h
    | 18, h => exact h
    | 19, h => exact h
    | _ + 20, h => exact trivial
  · refine And.intro (fun us w' hw hd => ?_) ?_
    · exact stepOf_plain rfl (opw (goF_0 (B := B) (k := k) (x := x) (vv := vv) (y := y) (b := b) (h0 := (fill_else _ us xs df 0 _ x0 rfl))) ⟨_, rfl, hw, rfl, trivial⟩)
    refine And.intro (fun us w' hw hd => ?_) ?_
    · exact stepOf_plain rfl (opw (goF_1 (B := B) (k := k) (x := x) (vv := vv) (y := y) (b := b) (h0 := (fill_else _ us xs df 0 _ x0 rfl))) ⟨_, rfl, hw, rfl, trivial⟩)
    refine And.intro (fun us w' hw hd => ?_) ?_
    · have h25 : us 25 = .pointer (some ⟨B, 0, none⟩) := hd.1 rfl
      exact stepOf_plain rfl (opw (goF_2 (B := B) (k := k) (x := x) (vv := vv) (y := y) (b := b) (h25 := ((fill_slot _ us xs df 25 (by omega) rfl).trans h25))) ⟨_, rfl, hw, rfl, trivial⟩)
    refine And.intro (fun us w' hw hd => ?_) ?_
    · have h26 : us 26 = .pointer (some ⟨B, 0, none⟩) := hd.1 rfl
      exact stepOf_plain rfl (opw (goF_3 (B := B) (k := k) (x := x) (vv := vv) (y := y) (b := b) (h26 := ((fill_slot _ us xs df 26 (by omega) rfl).trans h26))) ⟨_, rfl, hw, rfl, trivial⟩)
    refine And.intro (fun us w' hw hd => ?_) ?_
    · have h27 : us 27 = .pointer (some ⟨B, 96, none⟩) := hd.1 rfl
      exact stepOf_plain rfl (opw (goF_4 (B := B) (k := k) (x := x) (vv := vv) (y := y) (b := b) (h27 := ((fill_slot _ us xs df 27 (by omega) rfl).trans h27)) (c := (K w' hw))) ⟨_, rfl, hw, rfl, trivial⟩)
    refine And.intro (fun us w' hw hd => ?_) ?_
    · exact stepOf_plain rfl (opw (goF_5 (B := B) (k := k) (x := x) (vv := vv) (y := y) (b := b) (h7 := (fill_else _ us xs df 7 _ x7 rfl))) ⟨_, rfl, hw, rfl, trivial⟩)
    refine And.intro (fun us w' hw hd => ?_) ?_
    · exact stepOf_plain rfl (opw (goF_6 (B := B) (k := k) (x := x) (vv := vv) (y := y) (b := b) (h0 := (fill_else _ us xs df 0 _ x0 rfl))) ⟨_, rfl, hw, rfl, trivial⟩)
    refine And.intro (fun us w' hw hd => ?_) ?_
    · have h30 : us 30 = .pointer (some ⟨B, 0, none⟩) := hd.1 rfl
      exact stepOf_plain rfl (opw (goF_7 (B := B) (k := k) (x := x) (vv := vv) (y := y) (b := b) (h30 := ((fill_slot _ us xs df 30 (by omega) rfl).trans h30))) ⟨_, rfl, hw, rfl, trivial⟩)
    refine And.intro (fun us w' hw hd => ?_) ?_
    · have h31 : us 31 = .pointer (some ⟨B, 0, none⟩) := hd.1 rfl
      exact stepOf_plain rfl (opw (goF_8 (B := B) (k := k) (x := x) (vv := vv) (y := y) (b := b) (h31 := ((fill_slot _ us xs df 31 (by omega) rfl).trans h31))) ⟨_, rfl, hw, rfl, trivial⟩)
    refine And.intro (fun us w' hw hd => ?_) ?_
    · have h32 : us 32 = .pointer (some ⟨B, 96, none⟩) := hd.1 rfl
      exact stepOf_plain rfl (opw (goF_9 (B := B) (k := k) (x := x) (vv := vv) (y := y) (b := b) (h32 := ((fill_slot _ us xs df 32 (by omega) rfl).trans h32)) (c := (K w' hw))) ⟨_, rfl, hw, rfl, trivial⟩)
    refine And.intro (fun us w' hw hd => ?_) ?_
    · exact stepOf_plain rfl (opw (goF_10 (B := B) (k := k) (x := x) (vv := vv) (y := y) (b := b) (h7 := (fill_else _ us xs df 7 _ x7 rfl))) ⟨_, rfl, hw, rfl, trivial⟩)
    refine And.intro (fun us w' hw hd => ?_) ?_
    · have h33 : us 33 = .int .u8 x := hd.1 rfl
      have h34 : us 34 = .int .i64 k := hd.2.1 rfl
      refine stepOf_plain rfl (opw_call (goF_11 (h33 := ((fill_slot _ us xs df 33 (by omega) rfl).trans h33)) (h34 := ((fill_slot _ us xs df 34 (by omega) rfl).trans h34)) (hf := fun _ => rfl)) ?_)
      refine (C1 w').mono ?_
      rintro e' w2 ⟨rfl, b2⟩
      exact ⟨_, rfl, _, rfl, belowStep hw b2, rfl, trivial⟩
    refine And.intro (fun us w' hw hd => ?_) ?_
    · have h35 : us 35 = .bool false := hd.1 rfl
      exact stepOf_plain rfl (opw (goF_12 (B := B) (k := k) (x := x) (vv := vv) (y := y) (b := b) (h35 := ((fill_slot _ us xs df 35 (by omega) rfl).trans h35))) ⟨_, rfl, hw, rfl, trivial⟩)
    refine And.intro (fun us w' hw hd => ?_) ?_
    · have h36 : us 36 = .bool false := hd.1 rfl
      have hg : Region.wanted { dst := some 37, op := Op.move (Operand.tmp 2), type := 5, pos := zp, after := #[{ on := 12, ground := Ground.guard }], guard := some (12, false) } (yielded (goOps zp).toArray (fill ((goOps zp).filterMap (·.dst)) us 0 xs).toArray) = true := by
        show (yielded (goOps zp).toArray (fill ((goOps zp).filterMap (·.dst)) us 0 xs).toArray 12 == some false) = true
        rw [tl_guard (goOps zp) us xs 12 36 false rfl rfl (by omega) h36]; rfl
      exact stepOf_yes hg (opw (goF_13 (B := B) (k := k) (x := x) (vv := vv) (y := y) (b := b) (h2 := (fill_else _ us xs df 2 _ x2 rfl))) ⟨_, rfl, hw, rfl, trivial⟩)
    refine And.intro (fun us w' hw hd => ?_) ?_
    · have h36 : us 36 = .bool false := hd.1 rfl
      have hg : Region.wanted { dst := some 38, op := Op.move (Operand.tmp 7), type := 3, pos := zp, after := #[{ on := 12, ground := Ground.guard }], guard := some (12, false) } (yielded (goOps zp).toArray (fill ((goOps zp).filterMap (·.dst)) us 0 xs).toArray) = true := by
        show (yielded (goOps zp).toArray (fill ((goOps zp).filterMap (·.dst)) us 0 xs).toArray 12 == some false) = true
        rw [tl_guard (goOps zp) us xs 12 36 false rfl rfl (by omega) h36]; rfl
      exact stepOf_yes hg (opw (goF_14 (B := B) (k := k) (x := x) (vv := vv) (y := y) (b := b) (h7 := (fill_else _ us xs df 7 _ x7 rfl))) ⟨_, rfl, hw, rfl, trivial⟩)
    refine And.intro (fun us w' hw hd => ?_) ?_
    · have h37 : us 37 = .int .u8 vv := hd.1 rfl
      have h38 : us 38 = .int .i64 k := hd.2.1 rfl
      have h36 : us 36 = .bool false := hd.2.2.1 rfl
      have hg : Region.wanted { dst := some 39, op := Op.call { callee := Callee.value (Operand.func 45), args := #[Operand.tmp 37, Operand.tmp 38], argTypes := #[5, 3] }, type := 4, pos := zp, after := #[{ on := 13, ground := Ground.data }, { on := 14, ground := Ground.data }, { on := 12, ground := Ground.chain }, { on := 12, ground := Ground.guard }], guard := some (12, false) } (yielded (goOps zp).toArray (fill ((goOps zp).filterMap (·.dst)) us 0 xs).toArray) = true := by
        show (yielded (goOps zp).toArray (fill ((goOps zp).filterMap (·.dst)) us 0 xs).toArray 12 == some false) = true
        rw [tl_guard (goOps zp) us xs 12 36 false rfl rfl (by omega) h36]; rfl
      refine stepOf_yes hg (opw_call (goF_15 (h37 := ((fill_slot _ us xs df 37 (by omega) rfl).trans h37)) (h38 := ((fill_slot _ us xs df 38 (by omega) rfl).trans h38)) (hf := fun _ => rfl)) ?_)
      refine (C2 w').mono ?_
      rintro e' w2 ⟨rfl, b2⟩
      exact ⟨_, rfl, _, rfl, belowStep hw b2, rfl, trivial⟩
    refine And.intro (fun us w' hw hd => ?_) ?_
    · have h36 : us 36 = .bool false := hd.1 rfl
      have h39 : us 39 = .bool b := hd.2.1 rfl
      exact stepOf_plain rfl (opw (goF_16 (B := B) (k := k) (x := x) (vv := vv) (y := y) (b := b) (h36 := ((fill_slot _ us xs df 36 (by omega) rfl).trans h36)) (h39 := ((fill_slot _ us xs df 39 (by omega) rfl).trans h39)) (hc := fun _ => rfl)) ⟨_, rfl, hw, rfl, trivial⟩)
    refine And.intro (fun us w' hw hd => ?_) ?_
    · have h28 : us 28 = .int .u8 x := hd.1 rfl
      have h29 : us 29 = .int .i64 k := hd.2.1 rfl
      have h40 : us 40 = .bool b := hd.2.2.1 rfl
      refine stepOf_plain rfl (opw_call (goF_17 (h28 := ((fill_slot _ us xs df 28 (by omega) rfl).trans h28)) (h29 := ((fill_slot _ us xs df 29 (by omega) rfl).trans h29)) (h40 := ((fill_slot _ us xs df 40 (by omega) rfl).trans h40)) (hf := fun _ => rfl)) ?_)
      refine (C3 w').mono ?_
      rintro e' w2 ⟨rfl, b2⟩
      exact ⟨_, rfl, _, rfl, belowStep hw b2, rfl, trivial⟩
    refine And.intro (fun us w' hw hd => ?_) ?_
    · have h24 : us 24 = .pointer (some ⟨B, 0, none⟩) := hd.1 rfl
      exact stepOf_plain rfl (opw (goF_18 (B := B) (k := k) (x := x) (vv := vv) (y := y) (b := b) (h24 := ((fill_slot _ us xs df 24 (by omega) rfl).trans h24))) ⟨_, rfl, hw, rfl, trivial⟩)
    refine And.intro (fun us w' hw hd => ?_) ?_
    · have h42 : us 42 = .pointer (some ⟨B, 0, none⟩) := hd.1 rfl
      exact stepOf_plain rfl (opw (goF_19 (B := B) (k := k) (x := x) (vv := vv) (y := y) (b := b) (h42 := ((fill_slot _ us xs df 42 (by omega) rfl).trans h42))) ⟨_, rfl, hw, rfl, trivial⟩)
    exact trivial
  · intro us w' hw ha
    have h43 : us 43 = .pointer (some ⟨B, 96, none⟩) := ha.2.2.2.2.2.2.2.2.2.2.2.2.2.2.2.2.2.2.2.1
    have h41 : us 41 = .int .u8 y := ha.2.2.2.2.2.2.2.2.2.2.2.2.2.2.2.2.2.1
    exact opw_skip (goF_20 (B := B) (k := k) (x := x) (vv := vv) (y := y) (b := b) (h43 := (fill_slot ((goOps zp).filterMap (·.dst)) us xs df 43 (by omega) rfl).trans h43) (h41 := (fill_slot ((goOps zp).filterMap (·.dst)) us xs df 41 (by omega) rfl).trans h41) (cw := ⟨_, (K w' hw)⟩) (fw := (KF w' hw))) (hQ us w' hw)
def goS1 (B k : Nat) (x vv y : Int) (b : Bool) : Nat → Value → List Value → World → Prop
  | 0, z_, _, _ => z_ = .pointer (some ⟨B, 0, none⟩)
  | 1, z_, _, _ => z_ = .pointer (some ⟨B, 0, none⟩)
  | 2, z_, _, _ => z_ = .pointer (some ⟨B, 0, none⟩)
  | 3, z_, _, _ => z_ = .pointer (some ⟨B, 96, none⟩)
  | 4, z_, _, _ => z_ = .int .u8 x
  | 5, z_, _, _ => z_ = .int .i64 k
  | 6, z_, _, _ => z_ = .pointer (some ⟨B, 0, none⟩)
  | 7, z_, _, _ => z_ = .pointer (some ⟨B, 0, none⟩)
  | 8, z_, _, _ => z_ = .pointer (some ⟨B, 96, none⟩)
  | 9, z_, _, _ => z_ = .int .u8 x
  | 10, z_, _, _ => z_ = .int .i64 k
  | 11, z_, _, _ => z_ = .bool true
  | 12, z_, _, _ => z_ = .bool true
  | 16, z_, _, _ => z_ = .bool true
  | 17, z_, _, _ => z_ = .int .u8 y
  | 18, z_, _, _ => z_ = .pointer (some ⟨B, 0, none⟩)
  | 19, z_, _, _ => z_ = .pointer (some ⟨B, 96, none⟩)
  | _, _, _, _ => True
section
variable {ev : Operand → Value} {w : World}
theorem goT_0 (B k : Nat) (x vv y : Int) (b : Bool) (h0 : ev (.tmp 0) = .pointer (some ⟨B, 0, none⟩)) : (execOp ev { dst := some 24, op := Op.move (Operand.tmp 0), type := 47, pos := zp, after := #[], guard := none }).run Try.prog w = .ok (.value (.pointer (some ⟨B, 0, none⟩))) w := by
  first | (go_simp; done) | (simp [execOp, go_sem, *]; done) | (go_simp; trace_state)
theorem goT_1 (B k : Nat) (x vv y : Int) (b : Bool) (h0 : ev (.tmp 0) = .pointer (some ⟨B, 0, none⟩)) : (execOp ev { dst := some 25, op := Op.move (Operand.tmp 0), type := 47, pos := zp, after := #[], guard := none }).run Try.prog w = .ok (.value (.pointer (some ⟨B, 0, none⟩))) w := by
  first | (go_simp; done) | (simp [execOp, go_sem, *]; done) | (go_simp; trace_state)
theorem goT_2 (B k : Nat) (x vv y : Int) (b : Bool) (h25 : ev (.tmp 25) = .pointer (some ⟨B, 0, none⟩)) : (execOp ev { dst := some 26, op := Op.nilCheck (Operand.tmp 25), type := 0, pos := zp, after := #[{ on := 1, ground := Ground.data }], guard := none }).run Try.prog w = .ok (.value (.pointer (some ⟨B, 0, none⟩))) w := by
  first | (go_simp; done) | (simp [execOp, go_sem, *]; done) | (go_simp; trace_state)
theorem goT_3 (B k : Nat) (x vv y : Int) (b : Bool) (h26 : ev (.tmp 26) = .pointer (some ⟨B, 0, none⟩)) : (execOp ev { dst := some 27, op := Op.fieldAddr 51 (Operand.tmp 26) 1, type := 0, pos := zp, after := #[{ on := 2, ground := Ground.data }], guard := none }).run Try.prog w = .ok (.value (.pointer (some ⟨B, 96, none⟩))) w := by
  first | (go_simp; done) | (simp [execOp, go_sem, *]; done) | (go_simp; trace_state)
theorem goT_4 (B k : Nat) (x vv y : Int) (b : Bool) (h27 : ev (.tmp 27) = .pointer (some ⟨B, 96, none⟩)) (c : w.cell? ⟨B, 96, none⟩ = some (.int .u8 x)) : (execOp ev { dst := some 28, op := Op.load 5 (Operand.tmp 27), type := 5, pos := zp, after := #[{ on := 3, ground := Ground.data }], guard := none }).run Try.prog w = .ok (.value (.int .u8 x)) w := by
  first | (go_simp; done) | (simp [execOp, go_sem, *]; done) | (go_simp; trace_state)
theorem goT_5 (B k : Nat) (x vv y : Int) (b : Bool) (h7 : ev (.tmp 7) = .int .i64 k) : (execOp ev { dst := some 29, op := Op.move (Operand.tmp 7), type := 3, pos := zp, after := #[], guard := none }).run Try.prog w = .ok (.value (.int .i64 k)) w := by
  first | (go_simp; done) | (simp [execOp, go_sem, *]; done) | (go_simp; trace_state)
theorem goT_6 (B k : Nat) (x vv y : Int) (b : Bool) (h0 : ev (.tmp 0) = .pointer (some ⟨B, 0, none⟩)) : (execOp ev { dst := some 30, op := Op.move (Operand.tmp 0), type := 47, pos := zp, after := #[], guard := none }).run Try.prog w = .ok (.value (.pointer (some ⟨B, 0, none⟩))) w := by
  first | (go_simp; done) | (simp [execOp, go_sem, *]; done) | (go_simp; trace_state)
theorem goT_7 (B k : Nat) (x vv y : Int) (b : Bool) (h30 : ev (.tmp 30) = .pointer (some ⟨B, 0, none⟩)) : (execOp ev { dst := some 31, op := Op.nilCheck (Operand.tmp 30), type := 0, pos := zp, after := #[{ on := 6, ground := Ground.data }], guard := none }).run Try.prog w = .ok (.value (.pointer (some ⟨B, 0, none⟩))) w := by
  first | (go_simp; done) | (simp [execOp, go_sem, *]; done) | (go_simp; trace_state)
theorem goT_8 (B k : Nat) (x vv y : Int) (b : Bool) (h31 : ev (.tmp 31) = .pointer (some ⟨B, 0, none⟩)) : (execOp ev { dst := some 32, op := Op.fieldAddr 51 (Operand.tmp 31) 1, type := 0, pos := zp, after := #[{ on := 7, ground := Ground.data }], guard := none }).run Try.prog w = .ok (.value (.pointer (some ⟨B, 96, none⟩))) w := by
  first | (go_simp; done) | (simp [execOp, go_sem, *]; done) | (go_simp; trace_state)
theorem goT_9 (B k : Nat) (x vv y : Int) (b : Bool) (h32 : ev (.tmp 32) = .pointer (some ⟨B, 96, none⟩)) (c : w.cell? ⟨B, 96, none⟩ = some (.int .u8 x)) : (execOp ev { dst := some 33, op := Op.load 5 (Operand.tmp 32), type := 5, pos := zp, after := #[{ on := 8, ground := Ground.data }], guard := none }).run Try.prog w = .ok (.value (.int .u8 x)) w := by
  first | (go_simp; done) | (simp [execOp, go_sem, *]; done) | (go_simp; trace_state)
theorem goT_10 (B k : Nat) (x vv y : Int) (b : Bool) (h7 : ev (.tmp 7) = .int .i64 k) : (execOp ev { dst := some 34, op := Op.move (Operand.tmp 7), type := 3, pos := zp, after := #[], guard := none }).run Try.prog w = .ok (.value (.int .i64 k)) w := by
  first | (go_simp; done) | (simp [execOp, go_sem, *]; done) | (go_simp; trace_state)
theorem goT_12 (B k : Nat) (x vv y : Int) (b : Bool) (h35 : ev (.tmp 35) = .bool true) : (execOp ev { dst := some 36, op := Op.move (Operand.tmp 35), type := 4, pos := zp, after := #[{ on := 11, ground := Ground.data }, { on := 11, ground := Ground.chain }], guard := none }).run Try.prog w = .ok (.value (.bool true)) w := by
  first | (go_simp; done) | (simp [execOp, go_sem, *]; done) | (go_simp; trace_state)
theorem goT_16 (B k : Nat) (x vv y : Int) (b : Bool) (h36 : ev (.tmp 36) = .bool true) (hc : ∀ v, ev (.const v) = v) : (execOp ev { dst := some 40, op := Op.pick (Operand.tmp 36) (Operand.const (Value.bool true)) (Operand.tmp 39), type := 4, pos := zp, after := #[{ on := 12, ground := Ground.data }, { on := 15, ground := Ground.data }], guard := none }).run Try.prog w = .ok (.value (.bool true)) w := by
  first | (go_simp; done) | (simp [execOp, go_sem, *]; done) | (go_simp; trace_state)
theorem goT_18 (B k : Nat) (x vv y : Int) (b : Bool) (h24 : ev (.tmp 24) = .pointer (some ⟨B, 0, none⟩)) : (execOp ev { dst := some 42, op := Op.nilCheck (Operand.tmp 24), type := 0, pos := zp, after := #[{ on := 0, ground := Ground.data }, { on := 0, ground := Ground.phase }, { on := 1, ground := Ground.phase }, { on := 2, ground := Ground.phase }, { on := 3, ground := Ground.phase }, { on := 4, ground := Ground.phase }, { on := 5, ground := Ground.phase }, { on := 6, ground := Ground.phase }, { on := 7, ground := Ground.phase }, { on := 8, ground := Ground.phase }, { on := 9, ground := Ground.phase }, { on := 10, ground := Ground.phase }, { on := 11, ground := Ground.phase }, { on := 12, ground := Ground.phase }, { on := 13, ground := Ground.phase }, { on := 14, ground := Ground.phase }, { on := 15, ground := Ground.phase }, { on := 16, ground := Ground.phase }, { on := 17, ground := Ground.phase }], guard := none }).run Try.prog w = .ok (.value (.pointer (some ⟨B, 0, none⟩))) w := by
  first | (go_simp; done) | (simp [execOp, go_sem, *]; done) | (go_simp; trace_state)
theorem goT_19 (B k : Nat) (x vv y : Int) (b : Bool) (h42 : ev (.tmp 42) = .pointer (some ⟨B, 0, none⟩)) : (execOp ev { dst := some 43, op := Op.fieldAddr 51 (Operand.tmp 42) 1, type := 0, pos := zp, after := #[{ on := 18, ground := Ground.data }, { on := 0, ground := Ground.phase }, { on := 1, ground := Ground.phase }, { on := 2, ground := Ground.phase }, { on := 3, ground := Ground.phase }, { on := 4, ground := Ground.phase }, { on := 5, ground := Ground.phase }, { on := 6, ground := Ground.phase }, { on := 7, ground := Ground.phase }, { on := 8, ground := Ground.phase }, { on := 9, ground := Ground.phase }, { on := 10, ground := Ground.phase }, { on := 11, ground := Ground.phase }, { on := 12, ground := Ground.phase }, { on := 13, ground := Ground.phase }, { on := 14, ground := Ground.phase }, { on := 15, ground := Ground.phase }, { on := 16, ground := Ground.phase }, { on := 17, ground := Ground.phase }], guard := none }).run Try.prog w = .ok (.value (.pointer (some ⟨B, 96, none⟩))) w := by
  first | (go_simp; done) | (simp [execOp, go_sem, *]; done) | (go_simp; trace_state)
theorem goT_20 (B k : Nat) (x vv y : Int) (b : Bool) (h41 : ev (.tmp 41) = .int .u8 y) (h43 : ev (.tmp 43) = .pointer (some ⟨B, 96, none⟩)) (cw : ∃ u, w.cell? ⟨B, 96, none⟩ = some (.int .u8 u)) (fw : w.frozen? ⟨B, 96, none⟩ = false) : (execOp ev { dst := none, op := Op.store 5 (Operand.tmp 43) (Operand.tmp 41), type := 0, pos := zp, after := #[{ on := 19, ground := Ground.data }, { on := 17, ground := Ground.data }, { on := 17, ground := Ground.chain }, { on := 0, ground := Ground.phase }, { on := 1, ground := Ground.phase }, { on := 2, ground := Ground.phase }, { on := 3, ground := Ground.phase }, { on := 4, ground := Ground.phase }, { on := 5, ground := Ground.phase }, { on := 6, ground := Ground.phase }, { on := 7, ground := Ground.phase }, { on := 8, ground := Ground.phase }, { on := 9, ground := Ground.phase }, { on := 10, ground := Ground.phase }, { on := 11, ground := Ground.phase }, { on := 12, ground := Ground.phase }, { on := 13, ground := Ground.phase }, { on := 14, ground := Ground.phase }, { on := 15, ground := Ground.phase }, { on := 16, ground := Ground.phase }, { on := 17, ground := Ground.phase }], guard := none }).run Try.prog w = .ok .skip (w.setCell ⟨B, 96, none⟩ (.int .u8 y)) := by
  obtain ⟨u, hu⟩ := cw
  go_simp
theorem goT_11 {x33 : Value} (h33 : ev (.tmp 33) = x33) {x34 : Value} (h34 : ev (.tmp 34) = x34) (hf : ∀ f, ev (.func f) = .func (.func f) #[] #[]) : (execOp ev { dst := some 35, op := Op.call { callee := Callee.value (Operand.func 45), args := #[Operand.tmp 33, Operand.tmp 34], argTypes := #[5, 3] }, type := 4, pos := zp, after := #[{ on := 9, ground := Ground.data }, { on := 10, ground := Ground.data }], guard := none }).run Try.prog w = .ok (.enter 45 #[x33, x34]) w := by
  first | (go_simp; done) | (simp [execOp, go_sem, *]; done) | (go_simp; trace_state)
theorem goT_17 {x28 : Value} (h28 : ev (.tmp 28) = x28) {x29 : Value} (h29 : ev (.tmp 29) = x29) {x40 : Value} (h40 : ev (.tmp 40) = x40) (hf : ∀ f, ev (.func f) = .func (.func f) #[] #[]) : (execOp ev { dst := some 41, op := Op.call { callee := Callee.value (Operand.func 44), args := #[Operand.tmp 28, Operand.tmp 29, Operand.tmp 40], argTypes := #[5, 3, 4] }, type := 5, pos := zp, after := #[{ on := 4, ground := Ground.data }, { on := 5, ground := Ground.data }, { on := 16, ground := Ground.data }, { on := 15, ground := Ground.chain }], guard := none }).run Try.prog w = .ok (.enter 44 #[x28, x29, x40]) w := by
  first | (go_simp; done) | (simp [execOp, go_sem, *]; done) | (go_simp; trace_state)
end
set_option maxHeartbeats 4000000 in
theorem goT {wc : World} {B k : Nat} {x vv y : Int} {b : Bool} (K : ∀ w', Below wc.heap.size wc w' → w'.cell? ⟨B, 96, none⟩ = some (.int .u8 x)) (KF : ∀ w', Below wc.heap.size wc w' → w'.frozen? ⟨B, 96, none⟩ = false) (C1 : ∀ w', Calls Try.prog 45 #[.int .u8 x, .int .i64 k] w' (Says w' (.bool true))) (C3 : ∀ w', Calls Try.prog 44 #[.int .u8 x, .int .i64 k, .bool true] w' (Says w' (.int .u8 y))) (xs : List Value) (df : List Deferred) (hl : xs.length = 65) (x0 : xs[0]? = some (.pointer (some ⟨B, 0, none⟩))) (x2 : xs[2]? = some (.int .u8 vv)) (x7 : xs[7]? = some (.int .i64 k))
    (Q : Exit → Act → World → Prop) (hQ : ∀ us w', Below wc.heap.size wc w' → Q .normal ⟨(fill ((goOps zp).filterMap (·.dst)) us 0 xs).toArray, df⟩ (w'.setCell ⟨B, 96, none⟩ (.int .u8 y))) :
    (Code.region 7 (goOps zp).toArray true).wp Try.prog Q ⟨xs.toArray, df⟩ wc := by
  refine wp_region_tail (C := fun w' => Below wc.heap.size wc w') (S := goS1 B k x vv y b) (Ev := fun _ _ => True) 20 ({ dst := none, op := Op.store 5 (Operand.tmp 43) (Operand.tmp 41), type := 0, pos := zp, after := #[{ on := 19, ground := Ground.data }, { on := 17, ground := Ground.data }, { on := 17, ground := Ground.chain }, { on := 0, ground := Ground.phase }, { on := 1, ground := Ground.phase }, { on := 2, ground := Ground.phase }, { on := 3, ground := Ground.phase }, { on := 4, ground := Ground.phase }, { on := 5, ground := Ground.phase }, { on := 6, ground := Ground.phase }, { on := 7, ground := Ground.phase }, { on := 8, ground := Ground.phase }, { on := 9, ground := Ground.phase }, { on := 10, ground := Ground.phase }, { on := 11, ground := Ground.phase }, { on := 12, ground := Ground.phase }, { on := 13, ground := Ground.phase }, { on := 14, ground := Ground.phase }, { on := 15, ground := Ground.phase }, { on := 16, ground := Ground.phase }, { on := 17, ground := Ground.phase }], guard := none }) rfl rfl rfl (by kernel_rfl) (by kernel_rfl) (by kernel_rfl) ?_ (belowD (Below.refl _ _)) ?_ ?_
  · intro i z_ vs w1 w2 h _
    match i, h with
    | 0, h => exact h
    | 1, h => exact h
    | 2, h => exact h
    | 3, h => exact h
    | 4, h => exact h
    | 5, h => exact h
    | 6, h => exact h
    | 7, h => exact h
    | 8, h => exact h
    | 9, h => exact h
    | 10, h => exact h
    | 11, h => exact h
    | 12, h => exact h
    | 13, h => exact h
    | 14, h => exact h
    | 15, h => exact h
    | 16, h => exact h
    | 17, h => exact h
    | 18, h => exact h
    | 19, h => exact h
    | _ + 20, h => exact trivial
  · refine And.intro (fun us w' hw hd => ?_) ?_
    · exact stepOf_plain rfl (opw (goT_0 (B := B) (k := k) (x := x) (vv := vv) (y := y) (b := b) (h0 := (fill_else _ us xs df 0 _ x0 rfl))) ⟨_, rfl, hw, rfl, trivial⟩)
    refine And.intro (fun us w' hw hd => ?_) ?_
    · exact stepOf_plain rfl (opw (goT_1 (B := B) (k := k) (x := x) (vv := vv) (y := y) (b := b) (h0 := (fill_else _ us xs df 0 _ x0 rfl))) ⟨_, rfl, hw, rfl, trivial⟩)
    refine And.intro (fun us w' hw hd => ?_) ?_
    · have h25 : us 25 = .pointer (some ⟨B, 0, none⟩) := hd.1 rfl
      exact stepOf_plain rfl (opw (goT_2 (B := B) (k := k) (x := x) (vv := vv) (y := y) (b := b) (h25 := ((fill_slot _ us xs df 25 (by omega) rfl).trans h25))) ⟨_, rfl, hw, rfl, trivial⟩)
    refine And.intro (fun us w' hw hd => ?_) ?_
    · have h26 : us 26 = .pointer (some ⟨B, 0, none⟩) := hd.1 rfl
      exact stepOf_plain rfl (opw (goT_3 (B := B) (k := k) (x := x) (vv := vv) (y := y) (b := b) (h26 := ((fill_slot _ us xs df 26 (by omega) rfl).trans h26))) ⟨_, rfl, hw, rfl, trivial⟩)
    refine And.intro (fun us w' hw hd => ?_) ?_
    · have h27 : us 27 = .pointer (some ⟨B, 96, none⟩) := hd.1 rfl
      exact stepOf_plain rfl (opw (goT_4 (B := B) (k := k) (x := x) (vv := vv) (y := y) (b := b) (h27 := ((fill_slot _ us xs df 27 (by omega) rfl).trans h27)) (c := (K w' hw))) ⟨_, rfl, hw, rfl, trivial⟩)
    refine And.intro (fun us w' hw hd => ?_) ?_
    · exact stepOf_plain rfl (opw (goT_5 (B := B) (k := k) (x := x) (vv := vv) (y := y) (b := b) (h7 := (fill_else _ us xs df 7 _ x7 rfl))) ⟨_, rfl, hw, rfl, trivial⟩)
    refine And.intro (fun us w' hw hd => ?_) ?_
    · exact stepOf_plain rfl (opw (goT_6 (B := B) (k := k) (x := x) (vv := vv) (y := y) (b := b) (h0 := (fill_else _ us xs df 0 _ x0 rfl))) ⟨_, rfl, hw, rfl, trivial⟩)
    refine And.intro (fun us w' hw hd => ?_) ?_
    · have h30 : us 30 = .pointer (some ⟨B, 0, none⟩) := hd.1 rfl
      exact stepOf_plain rfl (opw (goT_7 (B := B) (k := k) (x := x) (vv := vv) (y := y) (b := b) (h30 := ((fill_slot _ us xs df 30 (by omega) rfl).trans h30))) ⟨_, rfl, hw, rfl, trivial⟩)
    refine And.intro (fun us w' hw hd => ?_) ?_
    · have h31 : us 31 = .pointer (some ⟨B, 0, none⟩) := hd.1 rfl
      exact stepOf_plain rfl (opw (goT_8 (B := B) (k := k) (x := x) (vv := vv) (y := y) (b := b) (h31 := ((fill_slot _ us xs df 31 (by omega) rfl).trans h31))) ⟨_, rfl, hw, rfl, trivial⟩)
    refine And.intro (fun us w' hw hd => ?_) ?_
    · have h32 : us 32 = .pointer (some ⟨B, 96, none⟩) := hd.1 rfl
      exact stepOf_plain rfl (opw (goT_9 (B := B) (k := k) (x := x) (vv := vv) (y := y) (b := b) (h32 := ((fill_slot _ us xs df 32 (by omega) rfl).trans h32)) (c := (K w' hw))) ⟨_, rfl, hw, rfl, trivial⟩)
    refine And.intro (fun us w' hw hd => ?_) ?_
    · exact stepOf_plain rfl (opw (goT_10 (B := B) (k := k) (x := x) (vv := vv) (y := y) (b := b) (h7 := (fill_else _ us xs df 7 _ x7 rfl))) ⟨_, rfl, hw, rfl, trivial⟩)
    refine And.intro (fun us w' hw hd => ?_) ?_
    · have h33 : us 33 = .int .u8 x := hd.1 rfl
      have h34 : us 34 = .int .i64 k := hd.2.1 rfl
      refine stepOf_plain rfl (opw_call (goT_11 (h33 := ((fill_slot _ us xs df 33 (by omega) rfl).trans h33)) (h34 := ((fill_slot _ us xs df 34 (by omega) rfl).trans h34)) (hf := fun _ => rfl)) ?_)
      refine (C1 w').mono ?_
      rintro e' w2 ⟨rfl, b2⟩
      exact ⟨_, rfl, _, rfl, belowStep hw b2, rfl, trivial⟩
    refine And.intro (fun us w' hw hd => ?_) ?_
    · have h35 : us 35 = .bool true := hd.1 rfl
      exact stepOf_plain rfl (opw (goT_12 (B := B) (k := k) (x := x) (vv := vv) (y := y) (b := b) (h35 := ((fill_slot _ us xs df 35 (by omega) rfl).trans h35))) ⟨_, rfl, hw, rfl, trivial⟩)
    refine And.intro (fun us w' hw hd => ?_) ?_
    · have h36 : us 36 = .bool true := hd.1 rfl
      have hg : Region.wanted { dst := some 37, op := Op.move (Operand.tmp 2), type := 5, pos := zp, after := #[{ on := 12, ground := Ground.guard }], guard := some (12, false) } (yielded (goOps zp).toArray (fill ((goOps zp).filterMap (·.dst)) us 0 xs).toArray) = false := by
        show (yielded (goOps zp).toArray (fill ((goOps zp).filterMap (·.dst)) us 0 xs).toArray 12 == some false) = false
        rw [tl_guard (goOps zp) us xs 12 36 true rfl rfl (by omega) h36]; rfl
      exact stepOf_no hg ⟨_, rfl, hw, trivial, trivial⟩
    refine And.intro (fun us w' hw hd => ?_) ?_
    · have h36 : us 36 = .bool true := hd.1 rfl
      have hg : Region.wanted { dst := some 38, op := Op.move (Operand.tmp 7), type := 3, pos := zp, after := #[{ on := 12, ground := Ground.guard }], guard := some (12, false) } (yielded (goOps zp).toArray (fill ((goOps zp).filterMap (·.dst)) us 0 xs).toArray) = false := by
        show (yielded (goOps zp).toArray (fill ((goOps zp).filterMap (·.dst)) us 0 xs).toArray 12 == some false) = false
        rw [tl_guard (goOps zp) us xs 12 36 true rfl rfl (by omega) h36]; rfl
      exact stepOf_no hg ⟨_, rfl, hw, trivial, trivial⟩
    refine And.intro (fun us w' hw hd => ?_) ?_
    · have h36 : us 36 = .bool true := hd.2.2.1 rfl
      have hg : Region.wanted { dst := some 39, op := Op.call { callee := Callee.value (Operand.func 45), args := #[Operand.tmp 37, Operand.tmp 38], argTypes := #[5, 3] }, type := 4, pos := zp, after := #[{ on := 13, ground := Ground.data }, { on := 14, ground := Ground.data }, { on := 12, ground := Ground.chain }, { on := 12, ground := Ground.guard }], guard := some (12, false) } (yielded (goOps zp).toArray (fill ((goOps zp).filterMap (·.dst)) us 0 xs).toArray) = false := by
        show (yielded (goOps zp).toArray (fill ((goOps zp).filterMap (·.dst)) us 0 xs).toArray 12 == some false) = false
        rw [tl_guard (goOps zp) us xs 12 36 true rfl rfl (by omega) h36]; rfl
      exact stepOf_no hg ⟨_, rfl, hw, trivial, trivial⟩
    refine And.intro (fun us w' hw hd => ?_) ?_
    · have h36 : us 36 = .bool true := hd.1 rfl
      exact stepOf_plain rfl (opw (goT_16 (B := B) (k := k) (x := x) (vv := vv) (y := y) (b := b) (h36 := ((fill_slot _ us xs df 36 (by omega) rfl).trans h36)) (hc := fun _ => rfl)) ⟨_, rfl, hw, rfl, trivial⟩)
    refine And.intro (fun us w' hw hd => ?_) ?_
    · have h28 : us 28 = .int .u8 x := hd.1 rfl
      have h29 : us 29 = .int .i64 k := hd.2.1 rfl
      have h40 : us 40 = .bool true := hd.2.2.1 rfl
      refine stepOf_plain rfl (opw_call (goT_17 (h28 := ((fill_slot _ us xs df 28 (by omega) rfl).trans h28)) (h29 := ((fill_slot _ us xs df 29 (by omega) rfl).trans h29)) (h40 := ((fill_slot _ us xs df 40 (by omega) rfl).trans h40)) (hf := fun _ => rfl)) ?_)
      refine (C3 w').mono ?_
      rintro e' w2 ⟨rfl, b2⟩
      exact ⟨_, rfl, _, rfl, belowStep hw b2, rfl, trivial⟩
    refine And.intro (fun us w' hw hd => ?_) ?_
    · have h24 : us 24 = .pointer (some ⟨B, 0, none⟩) := hd.1 rfl
      exact stepOf_plain rfl (opw (goT_18 (B := B) (k := k) (x := x) (vv := vv) (y := y) (b := b) (h24 := ((fill_slot _ us xs df 24 (by omega) rfl).trans h24))) ⟨_, rfl, hw, rfl, trivial⟩)
    refine And.intro (fun us w' hw hd => ?_) ?_
    · have h42 : us 42 = .pointer (some ⟨B, 0, none⟩) := hd.1 rfl
      exact stepOf_plain rfl (opw (goT_19 (B := B) (k := k) (x := x) (vv := vv) (y := y) (b := b) (h42 := ((fill_slot _ us xs df 42 (by omega) rfl).trans h42))) ⟨_, rfl, hw, rfl, trivial⟩)
    exact trivial
  · intro us w' hw ha
    have h43 : us 43 = .pointer (some ⟨B, 96, none⟩) := ha.2.2.2.2.2.2.2.2.2.2.2.2.2.2.2.2.2.2.2.1
    have h41 : us 41 = .int .u8 y := ha.2.2.2.2.2.2.2.2.2.2.2.2.2.2.2.2.2.1
    exact opw_skip (goT_20 (B := B) (k := k) (x := x) (vv := vv) (y := y) (b := b) (h43 := (fill_slot ((goOps zp).filterMap (·.dst)) us xs df 43 (by omega) rfl).trans h43) (h41 := (fill_slot ((goOps zp).filterMap (·.dst)) us xs df 41 (by omega) rfl).trans h41) (cw := ⟨_, (K w' hw)⟩) (fw := (KF w' hw))) (hQ us w' hw)
end Go.Proofs.Ytkeikkkcmackeaa
