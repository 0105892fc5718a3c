/- PortsScripts: the comparison behind each event, each operation looked at once. -/
import Derived.Test.YtniagcbajjmopaaGreatPortsRi
import Derived.Test.YtniagcbajjmopaaGreatRel
import Derived.Test.YtniagcbajjmopaaGreatBigRow
namespace Go.Proofs.YtniagcbajjmopaaGreat
open Go.RowKit
set_option linter.unusedVariables false
set_option linter.unusedSimpArgs false
set_option maxRecDepth 100000
theorem opw {P : Program} {o : Oper} {a : Act} {w w' : World} {K : Act → World → Prop} {Q : Exit → Act → World → Prop} {v : Value} (h : (execOp a.eval o).run P w = .ok (.value v) w') (k : K (a.put o.dst v) w') : o.wp P a w K Q := by
  unfold Oper.wp
  rw [h]; exact k
theorem opw_call {P : Program} {o : Oper} {a : Act} {w w' : World} {K : Act → World → Prop} {Q : Exit → Act → World → Prop} {f : FuncId} {args : Array Value} (h : (execOp a.eval o).run P w = .ok (.enter f args) w')
    (k : Calls P f args w' (fun e w'' => ∃ v, e = .returned v ∧ K (a.put o.dst v) w'')) : o.wp P a w K Q := by
  unfold Oper.wp
  rw [h, Oper.upon_enter]
  refine k.mono ?_
  rintro e w'' ⟨v, rfl, hk⟩
  exact hk
def scOps (zp : String) : List Oper := [
  { dst := some 152, op := Op.move (Operand.tmp 3), type := 23, pos := zp, after := #[], guard := none },
  { dst := some 153, op := Op.call { callee := Callee.value (Operand.func 16), args := #[Operand.tmp 152], argTypes := #[23] }, type := 3, pos := zp, after := #[{ on := 0, ground := Ground.data }], guard := none },
  { dst := some 154, op := Op.fieldAddr 28 (Operand.tmp 4) 0, type := 0, pos := zp, after := #[], guard := none },
  { dst := some 155, op := Op.load 3 (Operand.tmp 154), type := 3, pos := zp, after := #[{ on := 2, ground := Ground.data }], guard := none },
  { dst := some 156, op := Op.binOp BinOp.neq 3 (Operand.tmp 153) (Operand.tmp 155) 3, type := 4, pos := zp, after := #[{ on := 1, ground := Ground.data }, { on := 3, ground := Ground.data }], guard := none },
  { dst := some 157, op := Op.move (Operand.tmp 156), type := 4, pos := zp, after := #[{ on := 4, ground := Ground.data }, { on := 1, ground := Ground.chain }], guard := none },
  { dst := some 158, op := Op.move (Operand.tmp 3), type := 23, pos := zp, after := #[{ on := 5, ground := Ground.guard }], guard := some (5, false) },
  { dst := some 159, op := Op.call { callee := Callee.value (Operand.func 17), args := #[Operand.tmp 158], argTypes := #[23] }, type := 4, pos := zp, after := #[{ on := 6, ground := Ground.data }, { on := 5, ground := Ground.chain }, { on := 5, ground := Ground.guard }], guard := some (5, false) },
  { dst := some 160, op := Op.fieldAddr 28 (Operand.tmp 4) 12, type := 0, pos := zp, after := #[{ on := 5, ground := Ground.guard }], guard := some (5, false) },
  { dst := some 161, op := Op.load 4 (Operand.tmp 160), type := 4, pos := zp, after := #[{ on := 8, ground := Ground.data }, { on := 5, ground := Ground.guard }], guard := some (5, false) },
  { dst := some 162, op := Op.binOp BinOp.neq 4 (Operand.tmp 159) (Operand.tmp 161) 4, type := 4, pos := zp, after := #[{ on := 7, ground := Ground.data }, { on := 9, ground := Ground.data }, { on := 5, ground := Ground.guard }], guard := some (5, false) },
  { dst := some 163, op := Op.pick (Operand.tmp 157) (Operand.const (Value.bool true)) (Operand.tmp 162), type := 4, pos := zp, after := #[{ on := 5, ground := Ground.data }, { on := 10, ground := Ground.data }], guard := none },
  { dst := some 164, op := Op.move (Operand.tmp 163), type := 4, pos := zp, after := #[{ on := 11, ground := Ground.data }, { on := 7, ground := Ground.chain }], guard := none },
  { dst := some 165, op := Op.move (Operand.tmp 3), type := 23, pos := zp, after := #[{ on := 12, ground := Ground.guard }], guard := some (12, false) },
  { dst := some 166, op := Op.call { callee := Callee.value (Operand.func 18), args := #[Operand.tmp 165], argTypes := #[23] }, type := 4, pos := zp, after := #[{ on := 13, ground := Ground.data }, { on := 12, ground := Ground.chain }, { on := 12, ground := Ground.guard }], guard := some (12, false) },
  { dst := some 167, op := Op.fieldAddr 28 (Operand.tmp 4) 17, type := 0, pos := zp, after := #[{ on := 12, ground := Ground.guard }], guard := some (12, false) },
  { dst := some 168, op := Op.load 4 (Operand.tmp 167), type := 4, pos := zp, after := #[{ on := 15, ground := Ground.data }, { on := 12, ground := Ground.guard }], guard := some (12, false) },
  { dst := some 169, op := Op.binOp BinOp.neq 4 (Operand.tmp 166) (Operand.tmp 168) 4, type := 4, pos := zp, after := #[{ on := 14, ground := Ground.data }, { on := 16, ground := Ground.data }, { on := 12, ground := Ground.guard }], guard := some (12, false) },
  { dst := some 170, op := Op.pick (Operand.tmp 164) (Operand.const (Value.bool true)) (Operand.tmp 169), type := 4, pos := zp, after := #[{ on := 12, ground := Ground.data }, { on := 17, ground := Ground.data }], guard := none },
  { dst := some 171, op := Op.move (Operand.tmp 170), type := 4, pos := zp, after := #[{ on := 18, ground := Ground.data }, { on := 14, ground := Ground.chain }], guard := none },
  { dst := some 172, op := Op.move (Operand.tmp 3), type := 23, pos := zp, after := #[{ on := 19, ground := Ground.guard }], guard := some (19, false) },
  { dst := some 173, op := Op.call { callee := Callee.value (Operand.func 13), args := #[Operand.tmp 172], argTypes := #[23] }, type := 40, pos := zp, after := #[{ on := 20, ground := Ground.data }, { on := 19, ground := Ground.chain }, { on := 19, ground := Ground.guard }], guard := some (19, false) },
  { dst := some 174, op := Op.load 28 (Operand.tmp 4), type := 28, pos := zp, after := #[{ on := 19, ground := Ground.guard }], guard := some (19, false) },
  { dst := some 175, op := Op.call { callee := Callee.value (Operand.func 20), args := #[Operand.tmp 174], argTypes := #[28] }, type := 40, pos := zp, after := #[{ on := 22, ground := Ground.data }, { on := 21, ground := Ground.chain }, { on := 19, ground := Ground.guard }], guard := some (19, false) },
  { dst := some 176, op := Op.call { callee := Callee.value (Operand.func 19), args := #[Operand.tmp 173, Operand.tmp 175], argTypes := #[40, 40] }, type := 4, pos := zp, after := #[{ on := 21, ground := Ground.data }, { on := 23, ground := Ground.data }, { on := 23, ground := Ground.chain }, { on := 19, ground := Ground.guard }], guard := some (19, false) },
  { dst := some 177, op := Op.unOp UnOp.not 4 (Operand.tmp 176), type := 4, pos := zp, after := #[{ on := 24, ground := Ground.data }, { on := 19, ground := Ground.guard }], guard := some (19, false) },
  { dst := some 178, op := Op.pick (Operand.tmp 171) (Operand.const (Value.bool true)) (Operand.tmp 177), type := 4, pos := zp, after := #[{ on := 19, ground := Ground.data }, { on := 25, ground := Ground.data }], guard := none }]
variable {zp : String}
theorem scOps_dst : (scOps zp).filterMap (·.dst) = [152, 153, 154, 155, 156, 157, 158, 159, 160, 161, 162, 163, 164, 165, 166, 167, 168, 169, 170, 171, 172, 173, 174, 175, 176, 177, 178] := rfl
def scS (B g : Nat) (s : Pt) : Nat → Value → List Value → World → Prop
  | 0, v, _, w' => v = poP g
  | 1, v, _, w' => v = .int .i64 s.now
  | 2, v, _, w' => v = .pointer (some ⟨B, 0, none⟩)
  | 3, v, _, w' => v = .int .i64 s.now
  | 4, v, _, w' => v = .bool false
  | 5, v, _, w' => v = .bool false
  | 6, v, _, w' => v = poP g
  | 7, v, _, w' => v = .bool s.irq
  | 8, v, _, w' => v = .pointer (some ⟨B, 12, none⟩)
  | 9, v, _, w' => v = .bool s.irq
  | 10, v, _, w' => v = .bool false
  | 11, v, _, w' => v = .bool false
  | 12, v, _, w' => v = .bool false
  | 13, v, _, w' => v = poP g
  | 14, v, _, w' => v = .bool s.fast
  | 15, v, _, w' => v = .pointer (some ⟨B, 20, none⟩)
  | 16, v, _, w' => v = .bool s.fast
  | 17, v, _, w' => v = .bool false
  | 18, v, _, w' => v = .bool false
  | 19, v, _, w' => v = .bool false
  | 20, v, _, w' => v = poP g
  | 21, v, _, w' => FileAt 0 (fileOf (portB s)) v w'
  | 22, v, _, w' => v = .agg s.rs
  | 23, v, _, w' => FileAt 0 (fileOf (portB s)) v w'
  | 24, v, _, w' => v = .bool true
  | 25, v, _, w' => v = .bool false
  | 26, v, _, w' => v = .bool false
  | _, _, _, _ => True
theorem scS_mono {B g : Nat} {s : Pt} (i : Nat) (v : Value) (q : List Value) (w w' : World) (h : scS B g s i v q w) (k : Below w.heap.size w w') : scS B g s i v q w' := by
  match i, h with
  | 0, h => exact h
  | 1, h => exact h
  | 2, h => exact h
  | 3, h => exact h
  | 4, h => exact h
  | 5, h => exact h
  | 6, h => exact h
  | 7, h => exact h
  | 8, h => exact h
  | 9, h => exact h
  | 10, h => exact h
  | 11, h => exact h
  | 12, h => exact h
  | 13, h => exact h
  | 14, h => exact h
  | 15, h => exact h
  | 16, h => exact h
  | 17, h => exact h
  | 18, h => exact h
  | 19, h => exact h
  | 20, h => exact h
  | 21, h => exact FileAt.kept h k
  | 22, h => exact h
  | 23, h => exact FileAt.kept h k
  | 24, h => exact h
  | 25, h => exact h
  | 26, h => exact h
  | _ + 27, h => exact trivial
/-- The frame, a slot at a time. -/
theorem fill_slot (ds : List Nat) (us : Nat → Value) (xs : List Value) (df : List Deferred) (k : Nat) (hk : k < xs.length) (hd : ds.contains k = true) : (⟨(fill ds us 0 xs).toArray, df⟩ : Act).eval (.tmp k) = us k := by
  show ((fill ds us 0 xs).toArray).getD k undef = us k
  rw [Array.getD_eq_getD_getElem?, List.getElem?_toArray, fill_at, List.getElem?_eq_getElem hk]
  simp [show k ∈ ds by simpa using hd]
theorem fill_else (ds : List Nat) (us : Nat → Value) (xs : List Value) (df : List Deferred) (k : Nat) (v : Value) (hk : xs[k]? = some v) (hd : ds.contains k = false) : (⟨(fill ds us 0 xs).toArray, df⟩ : Act).eval (.tmp k) = v := by
  show ((fill ds us 0 xs).toArray).getD k undef = v
  rw [Array.getD_eq_getD_getElem?, List.getElem?_toArray, fill_at, hk]
  simp [show ¬ k ∈ ds by simpa using hd]
section
variable {ev : Operand → Value} {w : World}
theorem sc_0 {B g : Nat} {s : Pt} (h3 : ev (.tmp 3) = poP g) : (execOp ev { dst := some 152, op := Op.move (Operand.tmp 3), type := 23, pos := zp, after := #[], guard := none }).run Tryz.prog w = .ok (.value (poP g)) w := by
  first | (go_simp; done) | (simp [execOp, go_sem, *]; done) | (go_simp; trace_state)
theorem sc_2 {B g : Nat} {s : Pt} (h4 : ev (.tmp 4) = .pointer (some ⟨B, 0, none⟩)) : (execOp ev { dst := some 154, op := Op.fieldAddr 28 (Operand.tmp 4) 0, type := 0, pos := zp, after := #[], guard := none }).run Tryz.prog w = .ok (.value (.pointer (some ⟨B, 0, none⟩))) w := by
  first | (go_simp; done) | (simp [execOp, go_sem, *]; done) | (go_simp; trace_state)
theorem sc_3 {B g : Nat} {s : Pt} (h154 : ev (.tmp 154) = .pointer (some ⟨B, 0, none⟩)) (c : w.cell? ⟨B, 0, none⟩ = some (.int .i64 s.now)) : (execOp ev { dst := some 155, op := Op.load 3 (Operand.tmp 154), type := 3, pos := zp, after := #[{ on := 2, ground := Ground.data }], guard := none }).run Tryz.prog w = .ok (.value (.int .i64 s.now)) w := by
  first | (go_simp; done) | (simp [execOp, go_sem, *]; done) | (go_simp; trace_state)
theorem sc_4 {B g : Nat} {s : Pt} (h153 : ev (.tmp 153) = .int .i64 s.now) (h155 : ev (.tmp 155) = .int .i64 s.now) : (execOp ev { dst := some 156, op := Op.binOp BinOp.neq 3 (Operand.tmp 153) (Operand.tmp 155) 3, type := 4, pos := zp, after := #[{ on := 1, ground := Ground.data }, { on := 3, ground := Ground.data }], guard := none }).run Tryz.prog w = .ok (.value (.bool false)) w := by
  first | (go_simp; done) | (simp [execOp, go_sem, *]; done) | (go_simp; trace_state)
theorem sc_5 {B g : Nat} {s : Pt} (h156 : ev (.tmp 156) = .bool false) : (execOp ev { dst := some 157, op := Op.move (Operand.tmp 156), type := 4, pos := zp, after := #[{ on := 4, ground := Ground.data }, { on := 1, ground := Ground.chain }], guard := none }).run Tryz.prog w = .ok (.value (.bool false)) w := by
  first | (go_simp; done) | (simp [execOp, go_sem, *]; done) | (go_simp; trace_state)
theorem sc_6 {B g : Nat} {s : Pt} (h3 : ev (.tmp 3) = poP g) : (execOp ev { dst := some 158, op := Op.move (Operand.tmp 3), type := 23, pos := zp, after := #[{ on := 5, ground := Ground.guard }], guard := some (5, false) }).run Tryz.prog w = .ok (.value (poP g)) w := by
  first | (go_simp; done) | (simp [execOp, go_sem, *]; done) | (go_simp; trace_state)
theorem sc_8 {B g : Nat} {s : Pt} (h4 : ev (.tmp 4) = .pointer (some ⟨B, 0, none⟩)) : (execOp ev { dst := some 160, op := Op.fieldAddr 28 (Operand.tmp 4) 12, type := 0, pos := zp, after := #[{ on := 5, ground := Ground.guard }], guard := some (5, false) }).run Tryz.prog w = .ok (.value (.pointer (some ⟨B, 12, none⟩))) w := by
  first | (go_simp; done) | (simp [execOp, go_sem, *]; done) | (go_simp; trace_state)
theorem sc_9 {B g : Nat} {s : Pt} (h160 : ev (.tmp 160) = .pointer (some ⟨B, 12, none⟩)) (c : w.cell? ⟨B, 12, none⟩ = some (.bool s.irq)) : (execOp ev { dst := some 161, op := Op.load 4 (Operand.tmp 160), type := 4, pos := zp, after := #[{ on := 8, ground := Ground.data }, { on := 5, ground := Ground.guard }], guard := some (5, false) }).run Tryz.prog w = .ok (.value (.bool s.irq)) w := by
  first | (go_simp; done) | (simp [execOp, go_sem, *]; done) | (go_simp; trace_state)
theorem sc_10 {B g : Nat} {s : Pt} (h159 : ev (.tmp 159) = .bool s.irq) (h161 : ev (.tmp 161) = .bool s.irq) : (execOp ev { dst := some 162, op := Op.binOp BinOp.neq 4 (Operand.tmp 159) (Operand.tmp 161) 4, type := 4, pos := zp, after := #[{ on := 7, ground := Ground.data }, { on := 9, ground := Ground.data }, { on := 5, ground := Ground.guard }], guard := some (5, false) }).run Tryz.prog w = .ok (.value (.bool false)) w := by
  first | (go_simp; done) | (simp [execOp, go_sem, *]; done) | (go_simp; trace_state)
theorem sc_11 {B g : Nat} {s : Pt} (h157 : ev (.tmp 157) = .bool false) (h162 : ev (.tmp 162) = .bool false) (hc : ∀ v, ev (.const v) = v) : (execOp ev { dst := some 163, op := Op.pick (Operand.tmp 157) (Operand.const (Value.bool true)) (Operand.tmp 162), type := 4, pos := zp, after := #[{ on := 5, ground := Ground.data }, { on := 10, ground := Ground.data }], guard := none }).run Tryz.prog w = .ok (.value (.bool false)) w := by
  first | (go_simp; done) | (simp [execOp, go_sem, *]; done) | (go_simp; trace_state)
theorem sc_12 {B g : Nat} {s : Pt} (h163 : ev (.tmp 163) = .bool false) : (execOp ev { dst := some 164, op := Op.move (Operand.tmp 163), type := 4, pos := zp, after := #[{ on := 11, ground := Ground.data }, { on := 7, ground := Ground.chain }], guard := none }).run Tryz.prog w = .ok (.value (.bool false)) w := by
  first | (go_simp; done) | (simp [execOp, go_sem, *]; done) | (go_simp; trace_state)
theorem sc_13 {B g : Nat} {s : Pt} (h3 : ev (.tmp 3) = poP g) : (execOp ev { dst := some 165, op := Op.move (Operand.tmp 3), type := 23, pos := zp, after := #[{ on := 12, ground := Ground.guard }], guard := some (12, false) }).run Tryz.prog w = .ok (.value (poP g)) w := by
  first | (go_simp; done) | (simp [execOp, go_sem, *]; done) | (go_simp; trace_state)
theorem sc_15 {B g : Nat} {s : Pt} (h4 : ev (.tmp 4) = .pointer (some ⟨B, 0, none⟩)) : (execOp ev { dst := some 167, op := Op.fieldAddr 28 (Operand.tmp 4) 17, type := 0, pos := zp, after := #[{ on := 12, ground := Ground.guard }], guard := some (12, false) }).run Tryz.prog w = .ok (.value (.pointer (some ⟨B, 20, none⟩))) w := by
  first | (go_simp; done) | (simp [execOp, go_sem, *]; done) | (go_simp; trace_state)
theorem sc_16 {B g : Nat} {s : Pt} (h167 : ev (.tmp 167) = .pointer (some ⟨B, 20, none⟩)) (c : w.cell? ⟨B, 20, none⟩ = some (.bool s.fast)) : (execOp ev { dst := some 168, op := Op.load 4 (Operand.tmp 167), type := 4, pos := zp, after := #[{ on := 15, ground := Ground.data }, { on := 12, ground := Ground.guard }], guard := some (12, false) }).run Tryz.prog w = .ok (.value (.bool s.fast)) w := by
  first | (go_simp; done) | (simp [execOp, go_sem, *]; done) | (go_simp; trace_state)
theorem sc_17 {B g : Nat} {s : Pt} (h166 : ev (.tmp 166) = .bool s.fast) (h168 : ev (.tmp 168) = .bool s.fast) : (execOp ev { dst := some 169, op := Op.binOp BinOp.neq 4 (Operand.tmp 166) (Operand.tmp 168) 4, type := 4, pos := zp, after := #[{ on := 14, ground := Ground.data }, { on := 16, ground := Ground.data }, { on := 12, ground := Ground.guard }], guard := some (12, false) }).run Tryz.prog w = .ok (.value (.bool false)) w := by
  first | (go_simp; done) | (simp [execOp, go_sem, *]; done) | (go_simp; trace_state)
theorem sc_18 {B g : Nat} {s : Pt} (h164 : ev (.tmp 164) = .bool false) (h169 : ev (.tmp 169) = .bool false) (hc : ∀ v, ev (.const v) = v) : (execOp ev { dst := some 170, op := Op.pick (Operand.tmp 164) (Operand.const (Value.bool true)) (Operand.tmp 169), type := 4, pos := zp, after := #[{ on := 12, ground := Ground.data }, { on := 17, ground := Ground.data }], guard := none }).run Tryz.prog w = .ok (.value (.bool false)) w := by
  first | (go_simp; done) | (simp [execOp, go_sem, *]; done) | (go_simp; trace_state)
theorem sc_19 {B g : Nat} {s : Pt} (h170 : ev (.tmp 170) = .bool false) : (execOp ev { dst := some 171, op := Op.move (Operand.tmp 170), type := 4, pos := zp, after := #[{ on := 18, ground := Ground.data }, { on := 14, ground := Ground.chain }], guard := none }).run Tryz.prog w = .ok (.value (.bool false)) w := by
  first | (go_simp; done) | (simp [execOp, go_sem, *]; done) | (go_simp; trace_state)
theorem sc_20 {B g : Nat} {s : Pt} (h3 : ev (.tmp 3) = poP g) : (execOp ev { dst := some 172, op := Op.move (Operand.tmp 3), type := 23, pos := zp, after := #[{ on := 19, ground := Ground.guard }], guard := some (19, false) }).run Tryz.prog w = .ok (.value (poP g)) w := by
  first | (go_simp; done) | (simp [execOp, go_sem, *]; done) | (go_simp; trace_state)
theorem sc_25 {B g : Nat} {s : Pt} (h176 : ev (.tmp 176) = .bool true) : (execOp ev { dst := some 177, op := Op.unOp UnOp.not 4 (Operand.tmp 176), type := 4, pos := zp, after := #[{ on := 24, ground := Ground.data }, { on := 19, ground := Ground.guard }], guard := some (19, false) }).run Tryz.prog w = .ok (.value (.bool false)) w := by
  first | (go_simp; done) | (simp [execOp, go_sem, *]; done) | (go_simp; trace_state)
theorem sc_26 {B g : Nat} {s : Pt} (h171 : ev (.tmp 171) = .bool false) (h177 : ev (.tmp 177) = .bool false) (hc : ∀ v, ev (.const v) = v) : (execOp ev { dst := some 178, op := Op.pick (Operand.tmp 171) (Operand.const (Value.bool true)) (Operand.tmp 177), type := 4, pos := zp, after := #[{ on := 19, ground := Ground.data }, { on := 25, ground := Ground.data }], guard := none }).run Tryz.prog w = .ok (.value (.bool false)) w := by
  first | (go_simp; done) | (simp [execOp, go_sem, *]; done) | (go_simp; trace_state)
theorem sc_1 {x152 : Value} (h152 : ev (.tmp 152) = x152) (hf : ∀ f, ev (.func f) = .func (.func f) #[] #[]) : (execOp ev { dst := some 153, op := Op.call { callee := Callee.value (Operand.func 16), args := #[Operand.tmp 152], argTypes := #[23] }, type := 3, pos := zp, after := #[{ on := 0, ground := Ground.data }], guard := none }).run Tryz.prog w = .ok (.enter 16 #[x152]) w := by
  first | (go_simp; done) | (simp [execOp, go_sem, *]; done) | (go_simp; trace_state)
theorem sc_7 {x158 : Value} (h158 : ev (.tmp 158) = x158) (hf : ∀ f, ev (.func f) = .func (.func f) #[] #[]) : (execOp ev { dst := some 159, op := Op.call { callee := Callee.value (Operand.func 17), args := #[Operand.tmp 158], argTypes := #[23] }, type := 4, pos := zp, after := #[{ on := 6, ground := Ground.data }, { on := 5, ground := Ground.chain }, { on := 5, ground := Ground.guard }], guard := some (5, false) }).run Tryz.prog w = .ok (.enter 17 #[x158]) w := by
  first | (go_simp; done) | (simp [execOp, go_sem, *]; done) | (go_simp; trace_state)
theorem sc_14 {x165 : Value} (h165 : ev (.tmp 165) = x165) (hf : ∀ f, ev (.func f) = .func (.func f) #[] #[]) : (execOp ev { dst := some 166, op := Op.call { callee := Callee.value (Operand.func 18), args := #[Operand.tmp 165], argTypes := #[23] }, type := 4, pos := zp, after := #[{ on := 13, ground := Ground.data }, { on := 12, ground := Ground.chain }, { on := 12, ground := Ground.guard }], guard := some (12, false) }).run Tryz.prog w = .ok (.enter 18 #[x165]) w := by
  first | (go_simp; done) | (simp [execOp, go_sem, *]; done) | (go_simp; trace_state)
theorem sc_21 {x172 : Value} (h172 : ev (.tmp 172) = x172) (hf : ∀ f, ev (.func f) = .func (.func f) #[] #[]) : (execOp ev { dst := some 173, op := Op.call { callee := Callee.value (Operand.func 13), args := #[Operand.tmp 172], argTypes := #[23] }, type := 40, pos := zp, after := #[{ on := 20, ground := Ground.data }, { on := 19, ground := Ground.chain }, { on := 19, ground := Ground.guard }], guard := some (19, false) }).run Tryz.prog w = .ok (.enter 13 #[x172]) w := by
  first | (go_simp; done) | (simp [execOp, go_sem, *]; done) | (go_simp; trace_state)
theorem sc_23 {x174 : Value} (h174 : ev (.tmp 174) = x174) (hf : ∀ f, ev (.func f) = .func (.func f) #[] #[]) : (execOp ev { dst := some 175, op := Op.call { callee := Callee.value (Operand.func 20), args := #[Operand.tmp 174], argTypes := #[28] }, type := 40, pos := zp, after := #[{ on := 22, ground := Ground.data }, { on := 21, ground := Ground.chain }, { on := 19, ground := Ground.guard }], guard := some (19, false) }).run Tryz.prog w = .ok (.enter 20 #[x174]) w := by
  first | (go_simp; done) | (simp [execOp, go_sem, *]; done) | (go_simp; trace_state)
theorem sc_24 {x173 : Value} (h173 : ev (.tmp 173) = x173) {x175 : Value} (h175 : ev (.tmp 175) = x175) (hf : ∀ f, ev (.func f) = .func (.func f) #[] #[]) : (execOp ev { dst := some 176, op := Op.call { callee := Callee.value (Operand.func 19), args := #[Operand.tmp 173, Operand.tmp 175], argTypes := #[40, 40] }, type := 4, pos := zp, after := #[{ on := 21, ground := Ground.data }, { on := 23, ground := Ground.data }, { on := 23, ground := Ground.chain }, { on := 19, ground := Ground.guard }], guard := some (19, false) }).run Tryz.prog w = .ok (.enter 19 #[x173, x175]) w := by
  first | (go_simp; done) | (simp [execOp, go_sem, *]; done) | (go_simp; trace_state)
end
theorem sc_guard (us : Nat → Value) (xs : List Value) (hl : xs.length = 181) (i k : Nat) (b : Bool) (hk : ((scOps zp)[i]?).bind (·.dst) = some k) (hd : ((scOps zp).filterMap (·.dst)).contains k = true) (h181 : k < 181) (h : us k = .bool b) :
    yielded (scOps zp).toArray (fill ((scOps zp).filterMap (·.dst)) us 0 xs).toArray i = some b := by
  unfold yielded
  rw [List.getElem?_toArray, hk]
  show (match (fill ((scOps zp).filterMap (·.dst)) us 0 xs).toArray[k]? with | some (.bool b) => some b | _ => none) = some b
  rw [List.getElem?_toArray, fill_at, List.getElem?_eq_getElem (by omega : k < xs.length)]
  simp only [Nat.zero_add, Option.map_some, hd, if_true, h]
set_option maxHeartbeats 4000000 in
theorem region41 {W wc : World} {B g e : Nat} {ev : Array Value} {s : Pt} (J : Jo W B g e ev s s wc) (R : Rng s) (xs : List Value) (df : List Deferred) (hl : xs.length = 181) (x3 : xs[3]? = some (poP g)) (x4 : xs[4]? = some (.pointer (some ⟨B, 0, none⟩)))
    (Q : Exit → Act → World → Prop) (hQ : ∀ us w', Below wc.heap.size wc w' → us 178 = .bool false → Q .normal ⟨(fill ((scOps zp).filterMap (·.dst)) us 0 xs).toArray, df⟩ w') :
    (Code.region 41 (scOps zp).toArray true).wp Tryz.prog Q ⟨xs.toArray, df⟩ wc := by
  refine wp_region_rel (C := fun w' => Below wc.heap.size wc w') (S := scS B g s) (Ev := fun a b => Below a.heap.size a b) (by kernel_rfl) (by kernel_rfl) scS_mono (belowD (Below.refl _ _)) ?_ ?_
  · refine And.intro (fun us w' hw hd => ?_) ?_
    · exact stepOf_plain rfl (opw (sc_0 (B := B) (g := g) (s := s) (fill_else _ us xs df 3 _ x3 rfl)) ⟨_, rfl, hw, rfl, Below.refl _ _⟩)
    refine And.intro (fun us w' hw hd => ?_) ?_
    · have h152 : us 152 = poP g := hd.1 rfl
      refine stepOf_plain rfl (opw_call (sc_1 ((fill_slot _ us xs df 152 (by omega) rfl).trans h152) (fun _ => rfl)) ?_)
      refine (now_any (J.po.kept hw)).mono ?_
      rintro e' w2 ⟨rfl, b2⟩
      exact ⟨_, rfl, _, rfl, belowStep hw b2, rfl, b2⟩
    refine And.intro (fun us w' hw hd => ?_) ?_
    · exact stepOf_plain rfl (opw (sc_2 (B := B) (g := g) (s := s) (fill_else _ us xs df 4 _ x4 rfl)) ⟨_, rfl, hw, rfl, Below.refl _ _⟩)
    refine And.intro (fun us w' hw hd => ?_) ?_
    · have h154 : us 154 = .pointer (some ⟨B, 0, none⟩) := hd.1 rfl
      exact stepOf_plain rfl (opw (sc_3 (B := B) (g := g) (s := s) ((fill_slot _ us xs df 154 (by omega) rfl).trans h154) ((J.dp.kept hw).cell 0)) ⟨_, rfl, hw, rfl, Below.refl _ _⟩)
    refine And.intro (fun us w' hw hd => ?_) ?_
    · have h153 : us 153 = .int .i64 s.now := hd.1 rfl
      have h155 : us 155 = .int .i64 s.now := hd.2.1 rfl
      exact stepOf_plain rfl (opw (sc_4 (B := B) (g := g) (s := s) ((fill_slot _ us xs df 153 (by omega) rfl).trans h153) ((fill_slot _ us xs df 155 (by omega) rfl).trans h155)) ⟨_, rfl, hw, rfl, Below.refl _ _⟩)
    refine And.intro (fun us w' hw hd => ?_) ?_
    · have h156 : us 156 = .bool false := hd.1 rfl
      have h153 : us 153 = .int .i64 s.now := hd.2.1 rfl
      exact stepOf_plain rfl (opw (sc_5 (B := B) (g := g) (s := s) ((fill_slot _ us xs df 156 (by omega) rfl).trans h156)) ⟨_, rfl, hw, rfl, Below.refl _ _⟩)
    refine And.intro (fun us w' hw hd => ?_) ?_
    · have h157 : us 157 = .bool false := hd.1 rfl
      have hg : Region.wanted { dst := some 158, op := Op.move (Operand.tmp 3), type := 23, pos := zp, after := #[{ on := 5, ground := Ground.guard }], guard := some (5, false) } (yielded (scOps zp).toArray (fill ((scOps zp).filterMap (·.dst)) us 0 xs).toArray) = true := by
        show (yielded (scOps zp).toArray (fill ((scOps zp).filterMap (·.dst)) us 0 xs).toArray 5 == some false) = true
        rw [sc_guard us xs hl 5 157 false rfl rfl (by omega) h157]; rfl
      exact stepOf_yes hg (opw (sc_6 (B := B) (g := g) (s := s) (fill_else _ us xs df 3 _ x3 rfl)) ⟨_, rfl, hw, rfl, Below.refl _ _⟩)
    refine And.intro (fun us w' hw hd => ?_) ?_
    · have h158 : us 158 = poP g := hd.1 rfl
      have h157 : us 157 = .bool false := hd.2.1 rfl
      have hg : Region.wanted { dst := some 159, op := Op.call { callee := Callee.value (Operand.func 17), args := #[Operand.tmp 158], argTypes := #[23] }, type := 4, pos := zp, after := #[{ on := 6, ground := Ground.data }, { on := 5, ground := Ground.chain }, { on := 5, ground := Ground.guard }], guard := some (5, false) } (yielded (scOps zp).toArray (fill ((scOps zp).filterMap (·.dst)) us 0 xs).toArray) = true := by
        show (yielded (scOps zp).toArray (fill ((scOps zp).filterMap (·.dst)) us 0 xs).toArray 5 == some false) = true
        rw [sc_guard us xs hl 5 157 false rfl rfl (by omega) h157]; rfl
      refine stepOf_yes hg (opw_call (sc_7 ((fill_slot _ us xs df 158 (by omega) rfl).trans h158) (fun _ => rfl)) ?_)
      refine (irq_any (J.po.kept hw)).mono ?_
      rintro e' w2 ⟨rfl, b2⟩
      exact ⟨_, rfl, _, rfl, belowStep hw b2, rfl, b2⟩
    refine And.intro (fun us w' hw hd => ?_) ?_
    · have h157 : us 157 = .bool false := hd.1 rfl
      have hg : Region.wanted { dst := some 160, op := Op.fieldAddr 28 (Operand.tmp 4) 12, type := 0, pos := zp, after := #[{ on := 5, ground := Ground.guard }], guard := some (5, false) } (yielded (scOps zp).toArray (fill ((scOps zp).filterMap (·.dst)) us 0 xs).toArray) = true := by
        show (yielded (scOps zp).toArray (fill ((scOps zp).filterMap (·.dst)) us 0 xs).toArray 5 == some false) = true
        rw [sc_guard us xs hl 5 157 false rfl rfl (by omega) h157]; rfl
      exact stepOf_yes hg (opw (sc_8 (B := B) (g := g) (s := s) (fill_else _ us xs df 4 _ x4 rfl)) ⟨_, rfl, hw, rfl, Below.refl _ _⟩)
    refine And.intro (fun us w' hw hd => ?_) ?_
    · have h160 : us 160 = .pointer (some ⟨B, 12, none⟩) := hd.1 rfl
      have h157 : us 157 = .bool false := hd.2.1 rfl
      have hg : Region.wanted { dst := some 161, op := Op.load 4 (Operand.tmp 160), type := 4, pos := zp, after := #[{ on := 8, ground := Ground.data }, { on := 5, ground := Ground.guard }], guard := some (5, false) } (yielded (scOps zp).toArray (fill ((scOps zp).filterMap (·.dst)) us 0 xs).toArray) = true := by
        show (yielded (scOps zp).toArray (fill ((scOps zp).filterMap (·.dst)) us 0 xs).toArray 5 == some false) = true
        rw [sc_guard us xs hl 5 157 false rfl rfl (by omega) h157]; rfl
      exact stepOf_yes hg (opw (sc_9 (B := B) (g := g) (s := s) ((fill_slot _ us xs df 160 (by omega) rfl).trans h160) ((J.dp.kept hw).cell 12)) ⟨_, rfl, hw, rfl, Below.refl _ _⟩)
    refine And.intro (fun us w' hw hd => ?_) ?_
    · have h159 : us 159 = .bool s.irq := hd.1 rfl
      have h161 : us 161 = .bool s.irq := hd.2.1 rfl
      have h157 : us 157 = .bool false := hd.2.2.1 rfl
      have hg : Region.wanted { dst := some 162, op := Op.binOp BinOp.neq 4 (Operand.tmp 159) (Operand.tmp 161) 4, type := 4, pos := zp, after := #[{ on := 7, ground := Ground.data }, { on := 9, ground := Ground.data }, { on := 5, ground := Ground.guard }], guard := some (5, false) } (yielded (scOps zp).toArray (fill ((scOps zp).filterMap (·.dst)) us 0 xs).toArray) = true := by
        show (yielded (scOps zp).toArray (fill ((scOps zp).filterMap (·.dst)) us 0 xs).toArray 5 == some false) = true
        rw [sc_guard us xs hl 5 157 false rfl rfl (by omega) h157]; rfl
      exact stepOf_yes hg (opw (sc_10 (B := B) (g := g) (s := s) ((fill_slot _ us xs df 159 (by omega) rfl).trans h159) ((fill_slot _ us xs df 161 (by omega) rfl).trans h161)) ⟨_, rfl, hw, rfl, Below.refl _ _⟩)
    refine And.intro (fun us w' hw hd => ?_) ?_
    · have h157 : us 157 = .bool false := hd.1 rfl
      have h162 : us 162 = .bool false := hd.2.1 rfl
      exact stepOf_plain rfl (opw (sc_11 (B := B) (g := g) (s := s) ((fill_slot _ us xs df 157 (by omega) rfl).trans h157) ((fill_slot _ us xs df 162 (by omega) rfl).trans h162) (fun _ => rfl)) ⟨_, rfl, hw, rfl, Below.refl _ _⟩)
    refine And.intro (fun us w' hw hd => ?_) ?_
    · have h163 : us 163 = .bool false := hd.1 rfl
      have h159 : us 159 = .bool s.irq := hd.2.1 rfl
      exact stepOf_plain rfl (opw (sc_12 (B := B) (g := g) (s := s) ((fill_slot _ us xs df 163 (by omega) rfl).trans h163)) ⟨_, rfl, hw, rfl, Below.refl _ _⟩)
    refine And.intro (fun us w' hw hd => ?_) ?_
    · have h164 : us 164 = .bool false := hd.1 rfl
      have hg : Region.wanted { dst := some 165, op := Op.move (Operand.tmp 3), type := 23, pos := zp, after := #[{ on := 12, ground := Ground.guard }], guard := some (12, false) } (yielded (scOps zp).toArray (fill ((scOps zp).filterMap (·.dst)) us 0 xs).toArray) = true := by
        show (yielded (scOps zp).toArray (fill ((scOps zp).filterMap (·.dst)) us 0 xs).toArray 12 == some false) = true
        rw [sc_guard us xs hl 12 164 false rfl rfl (by omega) h164]; rfl
      exact stepOf_yes hg (opw (sc_13 (B := B) (g := g) (s := s) (fill_else _ us xs df 3 _ x3 rfl)) ⟨_, rfl, hw, rfl, Below.refl _ _⟩)
    refine And.intro (fun us w' hw hd => ?_) ?_
    · have h165 : us 165 = poP g := hd.1 rfl
      have h164 : us 164 = .bool false := hd.2.1 rfl
      have hg : Region.wanted { dst := some 166, op := Op.call { callee := Callee.value (Operand.func 18), args := #[Operand.tmp 165], argTypes := #[23] }, type := 4, pos := zp, after := #[{ on := 13, ground := Ground.data }, { on := 12, ground := Ground.chain }, { on := 12, ground := Ground.guard }], guard := some (12, false) } (yielded (scOps zp).toArray (fill ((scOps zp).filterMap (·.dst)) us 0 xs).toArray) = true := by
        show (yielded (scOps zp).toArray (fill ((scOps zp).filterMap (·.dst)) us 0 xs).toArray 12 == some false) = true
        rw [sc_guard us xs hl 12 164 false rfl rfl (by omega) h164]; rfl
      refine stepOf_yes hg (opw_call (sc_14 ((fill_slot _ us xs df 165 (by omega) rfl).trans h165) (fun _ => rfl)) ?_)
      refine (fast_any (J.po.kept hw)).mono ?_
      rintro e' w2 ⟨rfl, b2⟩
      exact ⟨_, rfl, _, rfl, belowStep hw b2, rfl, b2⟩
    refine And.intro (fun us w' hw hd => ?_) ?_
    · have h164 : us 164 = .bool false := hd.1 rfl
      have hg : Region.wanted { dst := some 167, op := Op.fieldAddr 28 (Operand.tmp 4) 17, type := 0, pos := zp, after := #[{ on := 12, ground := Ground.guard }], guard := some (12, false) } (yielded (scOps zp).toArray (fill ((scOps zp).filterMap (·.dst)) us 0 xs).toArray) = true := by
        show (yielded (scOps zp).toArray (fill ((scOps zp).filterMap (·.dst)) us 0 xs).toArray 12 == some false) = true
        rw [sc_guard us xs hl 12 164 false rfl rfl (by omega) h164]; rfl
      exact stepOf_yes hg (opw (sc_15 (B := B) (g := g) (s := s) (fill_else _ us xs df 4 _ x4 rfl)) ⟨_, rfl, hw, rfl, Below.refl _ _⟩)
    refine And.intro (fun us w' hw hd => ?_) ?_
    · have h167 : us 167 = .pointer (some ⟨B, 20, none⟩) := hd.1 rfl
      have h164 : us 164 = .bool false := hd.2.1 rfl
      have hg : Region.wanted { dst := some 168, op := Op.load 4 (Operand.tmp 167), type := 4, pos := zp, after := #[{ on := 15, ground := Ground.data }, { on := 12, ground := Ground.guard }], guard := some (12, false) } (yielded (scOps zp).toArray (fill ((scOps zp).filterMap (·.dst)) us 0 xs).toArray) = true := by
        show (yielded (scOps zp).toArray (fill ((scOps zp).filterMap (·.dst)) us 0 xs).toArray 12 == some false) = true
        rw [sc_guard us xs hl 12 164 false rfl rfl (by omega) h164]; rfl
      exact stepOf_yes hg (opw (sc_16 (B := B) (g := g) (s := s) ((fill_slot _ us xs df 167 (by omega) rfl).trans h167) ((J.dp.kept hw).cell 20)) ⟨_, rfl, hw, rfl, Below.refl _ _⟩)
    refine And.intro (fun us w' hw hd => ?_) ?_
    · have h166 : us 166 = .bool s.fast := hd.1 rfl
      have h168 : us 168 = .bool s.fast := hd.2.1 rfl
      have h164 : us 164 = .bool false := hd.2.2.1 rfl
      have hg : Region.wanted { dst := some 169, op := Op.binOp BinOp.neq 4 (Operand.tmp 166) (Operand.tmp 168) 4, type := 4, pos := zp, after := #[{ on := 14, ground := Ground.data }, { on := 16, ground := Ground.data }, { on := 12, ground := Ground.guard }], guard := some (12, false) } (yielded (scOps zp).toArray (fill ((scOps zp).filterMap (·.dst)) us 0 xs).toArray) = true := by
        show (yielded (scOps zp).toArray (fill ((scOps zp).filterMap (·.dst)) us 0 xs).toArray 12 == some false) = true
        rw [sc_guard us xs hl 12 164 false rfl rfl (by omega) h164]; rfl
      exact stepOf_yes hg (opw (sc_17 (B := B) (g := g) (s := s) ((fill_slot _ us xs df 166 (by omega) rfl).trans h166) ((fill_slot _ us xs df 168 (by omega) rfl).trans h168)) ⟨_, rfl, hw, rfl, Below.refl _ _⟩)
    refine And.intro (fun us w' hw hd => ?_) ?_
    · have h164 : us 164 = .bool false := hd.1 rfl
      have h169 : us 169 = .bool false := hd.2.1 rfl
      exact stepOf_plain rfl (opw (sc_18 (B := B) (g := g) (s := s) ((fill_slot _ us xs df 164 (by omega) rfl).trans h164) ((fill_slot _ us xs df 169 (by omega) rfl).trans h169) (fun _ => rfl)) ⟨_, rfl, hw, rfl, Below.refl _ _⟩)
    refine And.intro (fun us w' hw hd => ?_) ?_
    · have h170 : us 170 = .bool false := hd.1 rfl
      have h166 : us 166 = .bool s.fast := hd.2.1 rfl
      exact stepOf_plain rfl (opw (sc_19 (B := B) (g := g) (s := s) ((fill_slot _ us xs df 170 (by omega) rfl).trans h170)) ⟨_, rfl, hw, rfl, Below.refl _ _⟩)
    refine And.intro (fun us w' hw hd => ?_) ?_
    · have h171 : us 171 = .bool false := hd.1 rfl
      have hg : Region.wanted { dst := some 172, op := Op.move (Operand.tmp 3), type := 23, pos := zp, after := #[{ on := 19, ground := Ground.guard }], guard := some (19, false) } (yielded (scOps zp).toArray (fill ((scOps zp).filterMap (·.dst)) us 0 xs).toArray) = true := by
        show (yielded (scOps zp).toArray (fill ((scOps zp).filterMap (·.dst)) us 0 xs).toArray 19 == some false) = true
        rw [sc_guard us xs hl 19 171 false rfl rfl (by omega) h171]; rfl
      exact stepOf_yes hg (opw (sc_20 (B := B) (g := g) (s := s) (fill_else _ us xs df 3 _ x3 rfl)) ⟨_, rfl, hw, rfl, Below.refl _ _⟩)
    refine And.intro (fun us w' hw hd => ?_) ?_
    · have h172 : us 172 = poP g := hd.1 rfl
      have h171 : us 171 = .bool false := hd.2.1 rfl
      have hg : Region.wanted { dst := some 173, op := Op.call { callee := Callee.value (Operand.func 13), args := #[Operand.tmp 172], argTypes := #[23] }, type := 40, pos := zp, after := #[{ on := 20, ground := Ground.data }, { on := 19, ground := Ground.chain }, { on := 19, ground := Ground.guard }], guard := some (19, false) } (yielded (scOps zp).toArray (fill ((scOps zp).filterMap (·.dst)) us 0 xs).toArray) = true := by
        show (yielded (scOps zp).toArray (fill ((scOps zp).filterMap (·.dst)) us 0 xs).toArray 19 == some false) = true
        rw [sc_guard us xs hl 19 171 false rfl rfl (by omega) h171]; rfl
      refine stepOf_yes hg (opw_call (sc_21 ((fill_slot _ us xs df 172 (by omega) rfl).trans h172) (fun _ => rfl)) ?_)
      refine (savedPo_any (J.po.kept hw) R).mono ?_
      rintro e' w2 ⟨v2, rfl, hf, b2⟩
      exact ⟨_, rfl, _, rfl, belowStep hw b2, hf.weak (Nat.zero_le _), b2⟩
    refine And.intro (fun us w' hw hd => ?_) ?_
    · have h171 : us 171 = .bool false := hd.1 rfl
      have hg : Region.wanted { dst := some 174, op := Op.load 28 (Operand.tmp 4), type := 28, pos := zp, after := #[{ on := 19, ground := Ground.guard }], guard := some (19, false) } (yielded (scOps zp).toArray (fill ((scOps zp).filterMap (·.dst)) us 0 xs).toArray) = true := by
        show (yielded (scOps zp).toArray (fill ((scOps zp).filterMap (·.dst)) us 0 xs).toArray 19 == some false) = true
        rw [sc_guard us xs hl 19 171 false rfl rfl (by omega) h171]; rfl
      refine stepOf_yes hg (opw (v := .agg s.rs) ?_ ⟨_, rfl, hw, rfl, Below.refl _ _⟩)
      have DP := J.dp.kept hw
      have hx := fill_else ((scOps zp).filterMap (·.dst)) us xs df 4 _ x4 rfl
      have hr := run_loadVar_seen (P := Tryz.prog) w' B 28 s.rs _ (fun j v hv => (DP.cell j).trans hv) Tryz.underlying28 rfl (by kernel_rfl)
      unfold execOp
      simp only [hx, Instr.loadAt, Instr.sureAddr, Sem.run_bind, Sem.run_pure, Result.andThen_ok, hr]
    refine And.intro (fun us w' hw hd => ?_) ?_
    · have h174 : us 174 = .agg s.rs := hd.1 rfl
      have h173 : FileAt 0 (fileOf (portB s)) (us 173) w' := hd.2.1 rfl
      have h171 : us 171 = .bool false := hd.2.2.1 rfl
      have hg : Region.wanted { dst := some 175, op := Op.call { callee := Callee.value (Operand.func 20), args := #[Operand.tmp 174], argTypes := #[28] }, type := 40, pos := zp, after := #[{ on := 22, ground := Ground.data }, { on := 21, ground := Ground.chain }, { on := 19, ground := Ground.guard }], guard := some (19, false) } (yielded (scOps zp).toArray (fill ((scOps zp).filterMap (·.dst)) us 0 xs).toArray) = true := by
        show (yielded (scOps zp).toArray (fill ((scOps zp).filterMap (·.dst)) us 0 xs).toArray 19 == some false) = true
        rw [sc_guard us xs hl 19 171 false rfl rfl (by omega) h171]; rfl
      refine stepOf_yes hg (opw_call (sc_23 ((fill_slot _ us xs df 174 (by omega) rfl).trans h174) (fun _ => rfl)) ?_)
      refine (putPo_any _ s R).mono ?_
      rintro e' w2 ⟨v2, rfl, hf, b2⟩
      exact ⟨_, rfl, _, rfl, belowStep hw b2, hf.weak (Nat.zero_le _), b2⟩
    refine And.intro (fun us w' hw hd => ?_) ?_
    · have h173 : FileAt 0 (fileOf (portB s)) (us 173) w' := hd.1 rfl
      have h175 : FileAt 0 (fileOf (portB s)) (us 175) w' := hd.2.1 rfl
      have h171 : us 171 = .bool false := hd.2.2.2.1 rfl
      have hg : Region.wanted { dst := some 176, op := Op.call { callee := Callee.value (Operand.func 19), args := #[Operand.tmp 173, Operand.tmp 175], argTypes := #[40, 40] }, type := 4, pos := zp, after := #[{ on := 21, ground := Ground.data }, { on := 23, ground := Ground.data }, { on := 23, ground := Ground.chain }, { on := 19, ground := Ground.guard }], guard := some (19, false) } (yielded (scOps zp).toArray (fill ((scOps zp).filterMap (·.dst)) us 0 xs).toArray) = true := by
        show (yielded (scOps zp).toArray (fill ((scOps zp).filterMap (·.dst)) us 0 xs).toArray 19 == some false) = true
        rw [sc_guard us xs hl 19 171 false rfl rfl (by omega) h171]; rfl
      refine stepOf_yes hg (opw_call (sc_24 (fill_slot _ us xs df 173 (by omega) rfl) (fill_slot _ us xs df 175 (by omega) rfl) (fun _ => rfl)) ?_)
      refine (bytesF_any h173 h175 (by rw [file_len, portB_len]; omega) (by rw [file_len, portB_len]; omega)).mono ?_
      rintro e' w2 ⟨rfl, b2⟩
      exact ⟨_, rfl, _, rfl, belowStep hw b2, (by rw [decide_eq_true rfl]; rfl), b2⟩
    refine And.intro (fun us w' hw hd => ?_) ?_
    · have h176 : us 176 = .bool true := hd.1 rfl
      have h171 : us 171 = .bool false := hd.2.1 rfl
      have hg : Region.wanted { dst := some 177, op := Op.unOp UnOp.not 4 (Operand.tmp 176), type := 4, pos := zp, after := #[{ on := 24, ground := Ground.data }, { on := 19, ground := Ground.guard }], guard := some (19, false) } (yielded (scOps zp).toArray (fill ((scOps zp).filterMap (·.dst)) us 0 xs).toArray) = true := by
        show (yielded (scOps zp).toArray (fill ((scOps zp).filterMap (·.dst)) us 0 xs).toArray 19 == some false) = true
        rw [sc_guard us xs hl 19 171 false rfl rfl (by omega) h171]; rfl
      exact stepOf_yes hg (opw (sc_25 (B := B) (g := g) (s := s) ((fill_slot _ us xs df 176 (by omega) rfl).trans h176)) ⟨_, rfl, hw, rfl, Below.refl _ _⟩)
    refine And.intro (fun us w' hw hd => ?_) ?_
    · have h171 : us 171 = .bool false := hd.1 rfl
      have h177 : us 177 = .bool false := hd.2.1 rfl
      exact stepOf_plain rfl (opw (sc_26 (B := B) (g := g) (s := s) ((fill_slot _ us xs df 171 (by omega) rfl).trans h171) ((fill_slot _ us xs df 177 (by omega) rfl).trans h177) (fun _ => rfl)) ⟨_, rfl, hw, rfl, Below.refl _ _⟩)
    exact trivial
  · intro us w' hw ha
    have h178 : us 178 = .bool false := ha.2.2.2.2.2.2.2.2.2.2.2.2.2.2.2.2.2.2.2.2.2.2.2.2.2.2.1
    exact hQ us w' hw h178
end Go.Proofs.YtniagcbajjmopaaGreat
