/- dma: the unit and the document's side by side: what each event does to both; loaded; byteAt. dma: same, each operation of its last region looked at once. dma: the unit and the document's, and an event, in memory. -/
import Derived.Test.YtkeikkkcmackeaaDmaMe
import Derived.Test.YtkeikkkcmackeaaDmaMis
import Derived.Test.YtkeikkkcmackeaaDmaMg
import Derived.Test.YtkeikkkcmackeaaDmaMb
import Derived.Test.YtkeikkkcmackeaaDmaY
import Derived.Test.YtkeikkkcmackeaaSaveJs
import Derived.Test.YtkeikkkcmackeaaSame
import Derived.Test.YtkeikkkcmackeaaDmaU
import Derived.Test.YtkeikkkcmackeaaRel
import Derived.Test.YtkeikkkcmackeaaBigRows
import Derived.Test.YtkeikkkcmackeaaOpens
namespace Go.Proofs.Ytkeikkkcmackeaa
open Go.RowKit
set_option linter.unusedVariables false
set_option linter.unusedSimpArgs false
set_option maxRecDepth 100000
section
variable {w : World} {g B : Nat} {f r : Nat → Int}
theorem Wrote.ofSays {v : Value} {e : Ending} {w' : World} (A : Da w g f) (h : Says w v e w') : Wrote w g f v e w' := ⟨h.1, A.kept h.2, Upd.ofBelow h.2 g⟩
set_option maxHeartbeats 1000000 in
theorem moveDone_none (A : Da w g f) (hm : f 96 = 0) :
    Calls Try.prog 40 #[at_ g 0] w (Says w (.tuple #[])) := by
  have c96 := A.cell (j := 96) (by omega)
  rw [hm] at c96
  have LE := Lib.hid (least_none A)
  clear A hm
  go_enter Try.func40, Try.ntmps40
  go_wp2_with fail
  refine LE.out.mono ?_
  rintro e w1 ⟨rfl, hb1⟩
  have B1 := Lib.hid hb1
  clear hb1
  go_wp2_with fail
  (first | go_end0 | refine bodyPost_ret (results_none rfl _ _ _) rfl ?_)
  exact ⟨rfl, B1.out⟩
set_option maxHeartbeats 1000000 in
theorem done_none (A : Da w g f) (hm : f 96 = 0) (hw : f 101 = 0) (v : Int) :
    Calls Try.prog 14 #[at_ g 0, .int .u8 v] w (Wrote w g f (.tuple #[])) := by
  have c101 := A.cell (j := 101) (by omega)
  rw [hw] at c101
  have MD := Lib.hid (moveDone_none A hm)
  have HA := Lib.hid A
  clear A hm hw
  go_enter Try.func14, Try.ntmps14
  go_wp2_with fail
  refine MD.out.mono ?_
  rintro e w2 ⟨rfl, hb⟩
  have H2 := Lib.hid (Wrote.ofSays HA.out ⟨rfl, hb⟩ : Wrote w g f (.tuple #[]) (.returned (.tuple #[])) w2)
  clear hb
  go_wp2_with fail
  (first | go_end0 | refine bodyPost_ret (results_none rfl _ _ _) rfl ?_)
  exact H2.out
theorem zero_inv : Inv (fun _ => 0) := by
  refine ⟨fun _ => by omega, ?_, fun h => by simp at h, fun h => by simp at h⟩
  unfold canP
  simp
theorem doneM_rng {c : Nat} (hc : c < 8) {f : Nat → Int} (R : Rng f) : Rng (doneM c f) := by
  have RC : Rng (mvC (mvB (c * 12) (mvA (c * 12) f))) := mvC_rng (mvB_rng (mvA_rng R))
  unfold doneM mvD
  obtain ⟨b0, b1⟩ := bitOf_rng c hc
  have h6 := RC 96
  have h := u8_andNot_rng _ (bitOf c) h6.1 h6.2 b0 b1
  split
  · exact (RC.put1 _ h.1 h.2).put1 _ (by omega) (by omega)
  · exact RC
/-- What an event leaves, in both. -/
structure Both (fn gn : FuncId) (xs : Array Value) (f r : Nat → Int) : Prop where
  inv : Inv r
  prog : ∀ w g, Da w g f → Calls Try.prog fn (#[at_ g 0] ++ xs) w (Wrote w g r (.tuple #[]))
  doc : ∀ w B, Ra w B f → Calls Try.prog gn (#[at_ B 0] ++ xs) w (WroteR w B r (.tuple #[]))
theorem frame_pre (I : Inv f) : Pre (frmA f) := by
  obtain ⟨c1, c2, c3, c4, c5⟩ := I.can
  have e (j : Nat) (h : j ≠ 101) (h2 : j ≠ 102) : frmA f j = f j := by unfold frmA; rw [put1_ne h2, put1_ne h]
  have e1 : frmA f 101 = 1 := by unfold frmA; rw [put1_ne (by decide), put1_at, if_pos rfl]
  refine ⟨(I.r.put1 _ (by omega) (by omega)).put1 _ (I.r 98).1 (I.r 98).2, by rw [e 97 (by decide) (by decide)]; exact c1, by rw [e 97 (by decide) (by decide), e 96 (by decide) (by decide)]; exact c2, by rw [e1]; omega, fun h => by rw [e1] at h; omega⟩
theorem frame_both (I : Inv f) : ∃ r, Both 18 22 #[] f r := by
  have P := frame_pre I
  obtain ⟨r, hr⟩ := beg_total P.r
  exact ⟨r, hr.inv P, fun w g A => frame_gen A I.r hr, fun w B A => dframe_gen A I.r hr⟩
theorem line_pre' (I : Inv f) (hw : f 101 = 0) : Pre (lineA (bits .andNot .u8 (f 98) (f 99)) f) := by
  obtain ⟨c1, c2, c3, c4, c5⟩ := I.can
  have r8 := I.r 98
  have r9 := I.r 99
  have h := u8_andNot_rng (f 98) (f 99) r8.1 r8.2 r9.1 r9.2
  have e (b : Int) (j : Nat) (h : j ≠ 101) (h2 : j ≠ 102) : lineA b f j = f j := by unfold lineA; rw [put1_ne h2, put1_ne h]
  have e1 (b : Int) : lineA b f 101 = 2 := by unfold lineA; rw [put1_ne (by decide), put1_at, if_pos rfl]
  have e2 (b : Int) : lineA b f 102 = b := by unfold lineA; rw [put1_at, if_pos rfl]
  refine ⟨(I.r.put1 _ (by omega) (by omega)).put1 _ h.1 h.2, by rw [e _ 97 (by decide) (by decide)]; exact c1, by rw [e _ 97 (by decide) (by decide), e _ 96 (by decide) (by decide)]; exact c2, by rw [e1]; omega, fun _ k hk hb => ?_⟩
  rw [e2, bitN_andNot r8.1 r8.2 r9.1 r9.2 k hk] at hb
  rw [e _ 99 (by decide) (by decide)]
  by_cases q : bitN (f 98) k = 1 ∧ bitN (f 99) k ≠ 1
  · exact q.2
  · rw [if_neg q] at hb; omega
theorem line_both (I : Inv f) : ∃ r, Both 19 23 #[] f r := by
  by_cases hw : f 101 = 0
  · have P := line_pre' I hw
    obtain ⟨r, hr⟩ := beg_total P.r
    exact ⟨r, hr.inv P, fun w g A => line_gen A I.r hw hr, fun w B A => dline_gen A I.r hw hr⟩
  · exact ⟨f, I, fun w g A => line_busy A hw, fun w B A => dline_busy A hw⟩
theorem done_both (I : Inv f) (v : Int) (v0 : 0 ≤ v) (v1 : v ≤ 255) : ∃ r, Both 14 28 #[.int .u8 v] f r := by
  by_cases hw : f 101 = 0
  · by_cases hm : f 96 = 0
    · exact ⟨f, I, fun w g A => done_none A hm hw v, fun w B A => ddone_none A hm hw v⟩
    · have r6 := I.r 96
      obtain ⟨hc, hf⟩ := low_first (x := f 96) (by omega) r6.2
      exact ⟨_, doneM_inv I hw hm (doneM_rng hc I.r), fun w g A => done_move A I.r _ hc hf hw v, fun w B A => ddone_move A I.r _ hc rfl hw v⟩
  · obtain ⟨h1, h0⟩ := stF_inv I hw v v0 v1
    cases hq : (stF v f).1
    · exact ⟨_, h0 hq, fun w g A => done_tab A I hw v v0 v1 (fun h => by rw [hq] at h; cases h) (fun _ => rfl), fun w B A => ddone_st A I hw v v0 v1 (fun h => by rw [hq] at h; cases h) (fun _ => rfl)⟩
    · have P := h1 hq
      obtain ⟨r, hr⟩ := beg_total P.r
      exact ⟨r, hr.inv P, fun w g A => done_tab A I hw v v0 v1 (fun _ => hr) (fun h => by rw [hq] at h; cases h), fun w B A => ddone_st A I hw v v0 v1 (fun _ => dbegin_gen hr P.r) (fun h => by rw [hq] at h; cases h)⟩
theorem Inv.canD (I : Inv f) : Proofs.Ytkeikkkcmackeaa.canD f = true := decide_eq_true I.can
set_option maxHeartbeats 4000000 in
theorem loadedDa_any {v : Value} {C : Nat} (h : FileAt C (fileOf (dmB f)) v w) (I : Inv f) :
    Calls Try.prog 24 #[v] w (fun e w' => ∃ q, e = .returned (.tuple #[at_ q 0, .int .i64 0]) ∧ w.heap.size ≤ q ∧ Da w' q f ∧ Below w.heap.size w w') := by
  have NW := Lib.hid (new_any w)
  have NR := Lib.hid (fun w1 (hb : Below w.heap.size w w1) => newR_any w1 v (dmB f) C (h.kept hb) (dmB_ne f) (dmB_byts I.r) (by rw [dmB_len]; omega))
  have LO := Lib.hid (fun w2 (q gr bg cc : Nat) (A : Da w2 q (fun _ => 0)) (H : Rd w2 gr bg cc 0 (dmB f)) (n1 : q ≠ gr) (n2 : q ≠ bg) => loadDa_any A I.r H n1 n2)
  have CN := Lib.hid I.canD
  clear h I
  go_enter Try.func24, Try.ntmps24
  go_wp2_with fail
  refine NW.out.mono ?_
  rintro e w1 ⟨q, rfl, hq, a1, b1⟩
  have A1 := Lib.hid a1
  have B1 := Lib.hid b1
  have R1 := Lib.hid (NR.out w1 b1)
  clear a1 b1 NW NR
  go_wp2_with fail
  refine R1.out.mono ?_
  rintro e w2 ⟨gr, bg, cc, rfl, hgr, hbg, hr, b2⟩
  have n1 : q ≠ gr := by have := A1.out.lt; omega
  have n2 : q ≠ bg := by have := A1.out.lt; omega
  have L := Lib.hid (LO.out w2 q gr bg cc (A1.out.kept b2) hr n1 n2)
  have B2 := Lib.hid (B1.out.trans (b2.mono B1.out.size))
  have HG : Hid (w.heap.size ≤ gr) := Lib.hid (Nat.le_trans B1.out.size hgr)
  clear hr b2 R1 A1 B1 LO
  go_wp2_with fail
  refine L.out.mono ?_
  rintro e w3 ⟨rfl, a3, r3, u3⟩
  rw [CN.out] at a3
  have A3 := Lib.hid a3
  have HC : Hid ((if canD f = true then (0 : Int) else 260) = 0) := Lib.hid (by rw [CN.out]; rfl)
  have B3 : Hid (Below w.heap.size w w3) := Lib.hid ((u3.upd B2.out hq).out (Below.refl _ _) HG.out)
  clear a3 r3 u3 L
  go_wp2_with fail
  go_ret2
  exact ⟨q, by first | rfl | (rw [HC.out]; rfl), hq, A3.out, B3.out⟩
/-- The byte at an address. -/
def byteN (n : Nat) (h : Nat → Int) (a : Int) : Int := if n = 0 then 0 else h (a % n).toNat
set_option maxHeartbeats 1000000 in
theorem byteAt_any (v : Value) (n : Nat) (h : Nat → Int) (w : World) (S : Sees w .u8 v n h) (hn : n ≤ 9223372036854775807) (a : Int) (a0 : 0 ≤ a) (a1 : a ≤ 4294967295) :
    Calls Try.prog 27 #[v, .int .u32 a] w (Says w (.int .u8 (byteN n h a))) := by
  obtain ⟨ao, c, rfl, hs⟩ := S
  by_cases hz : n = 0
  · subst hz
    go_enter Try.func27, Try.ntmps27
    go_wp2_with fail
    go_ret
    exact ⟨rfl, Below.refl _ _⟩
  · obtain ⟨b, off, rfl, hc⟩ := hs.resolve_left hz
    have e : byteN n h a = h (a % n).toNat := if_neg hz
    rw [e]
    have i0 : 0 ≤ a % n := Int.emod_nonneg _ (by omega)
    have i1 : a % n < n := Int.emod_lt_of_pos _ (by omega)
    have em : a.tmod n = a % n := Int.tmod_eq_emod_of_nonneg a0
    obtain ⟨i, hi⟩ : ∃ i, (a % n).toNat = i := ⟨_, rfl⟩
    have hi' : a % n = (i : Int) := by omega
    rw [hi'] at em
    rw [hi]
    have hil : (i : Int) < n := by omega
    have ck := hc i (by omega)
    have wa : IntKind.i64.wrap a = a := by rw [IntKind.wrap_i64]; omega
    have wi : IntKind.i64.wrap (i : Int) = i := by rw [IntKind.wrap_i64]; omega
    have nz : (n : Int) ≠ 0 := by omega
    have tz : ((n : Int) == 0) = false := by simpa using nz
    obtain ⟨x, hx⟩ : ∃ x, h i = x := ⟨_, rfl⟩
    rw [hx] at ck ⊢
    clear hc hs e hi hi' i0 i1 hx
    go_enter Try.func27, Try.ntmps27
    go_wp2_with fail
    go_ret
    exact ⟨rfl, Below.refl _ _⟩
end
end Go.Proofs.Ytkeikkkcmackeaa

namespace Go.Proofs.Ytkeikkkcmackeaa
open Go.RowKit
set_option linter.unusedVariables false
set_option linter.unusedSimpArgs false
set_option maxRecDepth 100000
/-- The document's channels as a value. -/
def dmA (f : Nat → Int) : Array Value := ((List.range' 0 104).map fun j => Value.int .u8 (f j)).toArray
theorem dmA_row (f : Nat → Int) : Rw f (dmA f) := ⟨by simp [dmA], fun j hj => by simp [dmA, hj]⟩
def saOps (zp : String) : List Oper := [
  { dst := some 19, op := Op.load 30 (Operand.tmp 5), type := 30, pos := zp, after := #[], guard := none },
  { dst := some 20, op := Op.load 30 (Operand.tmp 7), type := 30, pos := zp, after := #[], guard := none },
  { dst := some 21, op := Op.binOp BinOp.eql 30 (Operand.tmp 19) (Operand.tmp 20) 30, type := 4, pos := zp, after := #[{ on := 0, ground := Ground.data }, { on := 1, ground := Ground.data }], guard := none },
  { dst := some 22, op := Op.move (Operand.tmp 21), type := 4, pos := zp, after := #[{ on := 2, ground := Ground.data }], guard := none },
  { dst := some 23, op := Op.move (Operand.tmp 6), type := 4, pos := zp, after := #[{ on := 3, ground := Ground.guard }], guard := some (3, true) },
  { dst := some 24, op := Op.move (Operand.tmp 8), type := 4, pos := zp, after := #[{ on := 3, ground := Ground.guard }], guard := some (3, true) },
  { dst := some 25, op := Op.binOp BinOp.eql 4 (Operand.tmp 23) (Operand.tmp 24) 4, type := 4, pos := zp, after := #[{ on := 4, ground := Ground.data }, { on := 5, ground := Ground.data }, { on := 3, ground := Ground.guard }], guard := some (3, true) },
  { dst := some 26, op := Op.pick (Operand.tmp 22) (Operand.tmp 25) (Operand.const (Value.bool false)), type := 4, pos := zp, after := #[{ on := 3, ground := Ground.data }, { on := 6, ground := Ground.data }], guard := none },
  { dst := some 27, op := Op.move (Operand.tmp 26), type := 4, pos := zp, after := #[{ on := 7, ground := Ground.data }, { on := 3, ground := Ground.chain }], guard := none },
  { dst := some 28, op := Op.move (Operand.tmp 0), type := 24, pos := zp, after := #[{ on := 8, ground := Ground.guard }], guard := some (8, true) },
  { dst := some 29, op := Op.call { callee := Callee.value (Operand.func 25), args := #[Operand.tmp 28], argTypes := #[24] }, type := 40, pos := zp, after := #[{ on := 9, ground := Ground.data }, { on := 8, ground := Ground.chain }, { on := 8, ground := Ground.guard }], guard := some (8, true) },
  { dst := some 30, op := Op.move (Operand.tmp 1), type := 47, pos := zp, after := #[{ on := 8, ground := Ground.guard }], guard := some (8, true) },
  { dst := some 31, op := Op.nilCheck (Operand.tmp 30), type := 0, pos := zp, after := #[{ on := 11, ground := Ground.data }, { on := 8, ground := Ground.guard }], guard := some (8, true) },
  { dst := some 32, op := Op.load 51 (Operand.tmp 31), type := 51, pos := zp, after := #[{ on := 12, ground := Ground.data }, { on := 8, ground := Ground.guard }], guard := some (8, true) },
  { dst := some 33, op := Op.call { callee := Callee.value (Operand.func 30), args := #[Operand.tmp 32], argTypes := #[51] }, type := 40, pos := zp, after := #[{ on := 13, ground := Ground.data }, { on := 10, ground := Ground.chain }, { on := 8, ground := Ground.guard }], guard := some (8, true) },
  { dst := some 34, op := Op.call { callee := Callee.value (Operand.func 34), args := #[Operand.tmp 29, Operand.tmp 33], argTypes := #[40, 40] }, type := 4, pos := zp, after := #[{ on := 10, ground := Ground.data }, { on := 14, ground := Ground.data }, { on := 14, ground := Ground.chain }, { on := 8, ground := Ground.guard }], guard := some (8, true) },
  { dst := some 35, op := Op.pick (Operand.tmp 27) (Operand.tmp 34) (Operand.const (Value.bool false)), type := 4, pos := zp, after := #[{ on := 8, ground := Ground.data }, { on := 15, ground := Ground.data }], guard := none },
  { dst := some 4, op := Op.assign (Operand.tmp 35), type := 4, pos := zp, after := #[{ on := 16, ground := Ground.data }, { on := 15, ground := Ground.chain }, { on := 0, ground := Ground.phase }, { on := 1, ground := Ground.phase }, { on := 2, ground := Ground.phase }, { on := 3, ground := Ground.phase }, { on := 4, ground := Ground.phase }, { on := 5, ground := Ground.phase }, { on := 6, ground := Ground.phase }, { on := 7, ground := Ground.phase }, { on := 8, ground := Ground.phase }, { on := 9, ground := Ground.phase }, { on := 10, ground := Ground.phase }, { on := 11, ground := Ground.phase }, { on := 12, ground := Ground.phase }, { on := 13, ground := Ground.phase }, { on := 14, ground := Ground.phase }, { on := 15, ground := Ground.phase }, { on := 16, ground := Ground.phase }], guard := none }]
variable {zp : String}
theorem saOps_dst : (saOps zp).filterMap (·.dst) = [19, 20, 21, 22, 23, 24, 25, 26, 27, 28, 29, 30, 31, 32, 33, 34, 35, 4] := rfl
def saS (B g : Nat) (f : Nat → Int) (k a b : Int) (is : Bool) : Nat → Value → List Value → World → Prop
  | 0, v, _, w' => v = trV k a b
  | 1, v, _, w' => v = trV k a b
  | 2, v, _, w' => v = .bool true
  | 3, v, _, w' => v = .bool true
  | 4, v, _, w' => v = .bool is
  | 5, v, _, w' => v = .bool is
  | 6, v, _, w' => v = .bool true
  | 7, v, _, w' => v = .bool true
  | 8, v, _, w' => v = .bool true
  | 9, v, _, w' => v = at_ g 0
  | 10, v, _, w' => FileAt 0 (fileOf (dmB f)) v w'
  | 11, v, _, w' => v = at_ B 0
  | 12, v, _, w' => v = at_ B 0
  | 13, v, _, w' => v = .agg (dmA f)
  | 14, v, _, w' => FileAt 0 (fileOf (dmB f)) v w'
  | 15, v, _, w' => v = .bool true
  | 16, v, _, w' => v = .bool true
  | 17, v, _, w' => v = .bool true
  | _, _, _, _ => True
theorem saS_mono {B g : Nat} {f : Nat → Int} {k a b : Int} {is : Bool} (i : Nat) (v : Value) (q : List Value) (w w' : World) (h : saS B g f k a b is i v q w) (kk : Below w.heap.size w w') : saS B g f k a b is i v q w' := by
  match i, h with
  | 0, h => exact h
  | 1, h => exact h
  | 2, h => exact h
  | 3, h => exact h
  | 4, h => exact h
  | 5, h => exact h
  | 6, h => exact h
  | 7, h => exact h
  | 8, h => exact h
  | 9, h => exact h
  | 10, h => exact FileAt.kept h kk
  | 11, h => exact h
  | 12, h => exact h
  | 13, h => exact h
  | 14, h => exact FileAt.kept h kk
  | 15, h => exact h
  | 16, h => exact h
  | 17, h => exact h
  | _ + 18, h => exact trivial
section
variable {ev : Operand → Value} {w : World}
theorem sa_2 {B g T5 T7 : Nat} {f : Nat → Int} {k a b : Int} {is : Bool} (h19 : ev (.tmp 19) = trV k a b) (h20 : ev (.tmp 20) = trV k a b) : (execOp ev { dst := some 21, op := Op.binOp BinOp.eql 30 (Operand.tmp 19) (Operand.tmp 20) 30, type := 4, pos := zp, after := #[{ on := 0, ground := Ground.data }, { on := 1, ground := Ground.data }], guard := none }).run Try.prog w = .ok (.value (.bool true)) w := by
  first | (go_simp; done) | (simp [execOp, go_sem, *]; done) | (go_simp; trace_state)
theorem sa_3 {B g T5 T7 : Nat} {f : Nat → Int} {k a b : Int} {is : Bool} (h21 : ev (.tmp 21) = .bool true) : (execOp ev { dst := some 22, op := Op.move (Operand.tmp 21), type := 4, pos := zp, after := #[{ on := 2, ground := Ground.data }], guard := none }).run Try.prog w = .ok (.value (.bool true)) w := by
  first | (go_simp; done) | (simp [execOp, go_sem, *]; done) | (go_simp; trace_state)
theorem sa_4 {B g T5 T7 : Nat} {f : Nat → Int} {k a b : Int} {is : Bool} (h6 : ev (.tmp 6) = .bool is) : (execOp ev { dst := some 23, op := Op.move (Operand.tmp 6), type := 4, pos := zp, after := #[{ on := 3, ground := Ground.guard }], guard := some (3, true) }).run Try.prog w = .ok (.value (.bool is)) w := by
  first | (go_simp; done) | (simp [execOp, go_sem, *]; done) | (go_simp; trace_state)
theorem sa_5 {B g T5 T7 : Nat} {f : Nat → Int} {k a b : Int} {is : Bool} (h8 : ev (.tmp 8) = .bool is) : (execOp ev { dst := some 24, op := Op.move (Operand.tmp 8), type := 4, pos := zp, after := #[{ on := 3, ground := Ground.guard }], guard := some (3, true) }).run Try.prog w = .ok (.value (.bool is)) w := by
  first | (go_simp; done) | (simp [execOp, go_sem, *]; done) | (go_simp; trace_state)
theorem sa_6 {B g T5 T7 : Nat} {f : Nat → Int} {k a b : Int} {is : Bool} (h23 : ev (.tmp 23) = .bool is) (h24 : ev (.tmp 24) = .bool is) : (execOp ev { dst := some 25, op := Op.binOp BinOp.eql 4 (Operand.tmp 23) (Operand.tmp 24) 4, type := 4, pos := zp, after := #[{ on := 4, ground := Ground.data }, { on := 5, ground := Ground.data }, { on := 3, ground := Ground.guard }], guard := some (3, true) }).run Try.prog w = .ok (.value (.bool true)) w := by
  first | (go_simp; done) | (simp [execOp, go_sem, *]; done) | (go_simp; trace_state)
theorem sa_7 {B g T5 T7 : Nat} {f : Nat → Int} {k a b : Int} {is : Bool} (h22 : ev (.tmp 22) = .bool true) (h25 : ev (.tmp 25) = .bool true) (hc : ∀ v, ev (.const v) = v) : (execOp ev { dst := some 26, op := Op.pick (Operand.tmp 22) (Operand.tmp 25) (Operand.const (Value.bool false)), type := 4, pos := zp, after := #[{ on := 3, ground := Ground.data }, { on := 6, ground := Ground.data }], guard := none }).run Try.prog w = .ok (.value (.bool true)) w := by
  first | (go_simp; done) | (simp [execOp, go_sem, *]; done) | (go_simp; trace_state)
theorem sa_8 {B g T5 T7 : Nat} {f : Nat → Int} {k a b : Int} {is : Bool} (h26 : ev (.tmp 26) = .bool true) : (execOp ev { dst := some 27, op := Op.move (Operand.tmp 26), type := 4, pos := zp, after := #[{ on := 7, ground := Ground.data }, { on := 3, ground := Ground.chain }], guard := none }).run Try.prog w = .ok (.value (.bool true)) w := by
  first | (go_simp; done) | (simp [execOp, go_sem, *]; done) | (go_simp; trace_state)
theorem sa_9 {B g T5 T7 : Nat} {f : Nat → Int} {k a b : Int} {is : Bool} (h0 : ev (.tmp 0) = at_ g 0) : (execOp ev { dst := some 28, op := Op.move (Operand.tmp 0), type := 24, pos := zp, after := #[{ on := 8, ground := Ground.guard }], guard := some (8, true) }).run Try.prog w = .ok (.value (at_ g 0)) w := by
  first | (go_simp; done) | (simp [execOp, go_sem, *]; done) | (go_simp; trace_state)
theorem sa_11 {B g T5 T7 : Nat} {f : Nat → Int} {k a b : Int} {is : Bool} (h1 : ev (.tmp 1) = at_ B 0) : (execOp ev { dst := some 30, op := Op.move (Operand.tmp 1), type := 47, pos := zp, after := #[{ on := 8, ground := Ground.guard }], guard := some (8, true) }).run Try.prog w = .ok (.value (at_ B 0)) w := by
  first | (go_simp; done) | (simp [execOp, go_sem, *]; done) | (go_simp; trace_state)
theorem sa_12 {B g T5 T7 : Nat} {f : Nat → Int} {k a b : Int} {is : Bool} (h30 : ev (.tmp 30) = at_ B 0) : (execOp ev { dst := some 31, op := Op.nilCheck (Operand.tmp 30), type := 0, pos := zp, after := #[{ on := 11, ground := Ground.data }, { on := 8, ground := Ground.guard }], guard := some (8, true) }).run Try.prog w = .ok (.value (at_ B 0)) w := by
  first | (go_simp; done) | (simp [execOp, go_sem, *]; done) | (go_simp; trace_state)
theorem sa_16 {B g T5 T7 : Nat} {f : Nat → Int} {k a b : Int} {is : Bool} (h27 : ev (.tmp 27) = .bool true) (h34 : ev (.tmp 34) = .bool true) (hc : ∀ v, ev (.const v) = v) : (execOp ev { dst := some 35, op := Op.pick (Operand.tmp 27) (Operand.tmp 34) (Operand.const (Value.bool false)), type := 4, pos := zp, after := #[{ on := 8, ground := Ground.data }, { on := 15, ground := Ground.data }], guard := none }).run Try.prog w = .ok (.value (.bool true)) w := by
  first | (go_simp; done) | (simp [execOp, go_sem, *]; done) | (go_simp; trace_state)
theorem sa_17 {B g T5 T7 : Nat} {f : Nat → Int} {k a b : Int} {is : Bool} (h35 : ev (.tmp 35) = .bool true) : (execOp ev { dst := some 4, op := Op.assign (Operand.tmp 35), type := 4, pos := zp, after := #[{ on := 16, ground := Ground.data }, { on := 15, ground := Ground.chain }, { on := 0, ground := Ground.phase }, { on := 1, ground := Ground.phase }, { on := 2, ground := Ground.phase }, { on := 3, ground := Ground.phase }, { on := 4, ground := Ground.phase }, { on := 5, ground := Ground.phase }, { on := 6, ground := Ground.phase }, { on := 7, ground := Ground.phase }, { on := 8, ground := Ground.phase }, { on := 9, ground := Ground.phase }, { on := 10, ground := Ground.phase }, { on := 11, ground := Ground.phase }, { on := 12, ground := Ground.phase }, { on := 13, ground := Ground.phase }, { on := 14, ground := Ground.phase }, { on := 15, ground := Ground.phase }, { on := 16, ground := Ground.phase }], guard := none }).run Try.prog w = .ok (.value (.bool true)) w := by
  first | (go_simp; done) | (simp [execOp, go_sem, *]; done) | (go_simp; trace_state)
theorem sa_10 {x28 : Value} (h28 : ev (.tmp 28) = x28) (hf : ∀ f, ev (.func f) = .func (.func f) #[] #[]) : (execOp ev { dst := some 29, op := Op.call { callee := Callee.value (Operand.func 25), args := #[Operand.tmp 28], argTypes := #[24] }, type := 40, pos := zp, after := #[{ on := 9, ground := Ground.data }, { on := 8, ground := Ground.chain }, { on := 8, ground := Ground.guard }], guard := some (8, true) }).run Try.prog w = .ok (.enter 25 #[x28]) w := by
  first | (go_simp; done) | (simp [execOp, go_sem, *]; done) | (go_simp; trace_state)
theorem sa_14 {x32 : Value} (h32 : ev (.tmp 32) = x32) (hf : ∀ f, ev (.func f) = .func (.func f) #[] #[]) : (execOp ev { dst := some 33, op := Op.call { callee := Callee.value (Operand.func 30), args := #[Operand.tmp 32], argTypes := #[51] }, type := 40, pos := zp, after := #[{ on := 13, ground := Ground.data }, { on := 10, ground := Ground.chain }, { on := 8, ground := Ground.guard }], guard := some (8, true) }).run Try.prog w = .ok (.enter 30 #[x32]) w := by
  first | (go_simp; done) | (simp [execOp, go_sem, *]; done) | (go_simp; trace_state)
theorem sa_15 {x29 : Value} (h29 : ev (.tmp 29) = x29) {x33 : Value} (h33 : ev (.tmp 33) = x33) (hf : ∀ f, ev (.func f) = .func (.func f) #[] #[]) : (execOp ev { dst := some 34, op := Op.call { callee := Callee.value (Operand.func 34), args := #[Operand.tmp 29, Operand.tmp 33], argTypes := #[40, 40] }, type := 4, pos := zp, after := #[{ on := 10, ground := Ground.data }, { on := 14, ground := Ground.data }, { on := 14, ground := Ground.chain }, { on := 8, ground := Ground.guard }], guard := some (8, true) }).run Try.prog w = .ok (.enter 34 #[x29, x33]) w := by
  first | (go_simp; done) | (simp [execOp, go_sem, *]; done) | (go_simp; trace_state)
end
set_option maxHeartbeats 4000000 in
theorem sameReg {wc : World} {B g T5 T7 : Nat} {f : Nat → Int} {k a b : Int} {is : Bool} (A : Da wc g f) (K : Ra wc B f) (R : Rng f) (B5 : Blk wc T5 30 #[.int .u8 k, .int .u32 a, .int .u8 b]) (B7 : Blk wc T7 30 #[.int .u8 k, .int .u32 a, .int .u8 b])
    (xs : List Value) (df : List Deferred) (hl : xs.length = 36) (x0 : xs[0]? = some (at_ g 0)) (x1 : xs[1]? = some (at_ B 0)) (x5 : xs[5]? = some (at_ T5 0)) (x6 : xs[6]? = some (.bool is)) (x7 : xs[7]? = some (at_ T7 0)) (x8 : xs[8]? = some (.bool is))
    (Q : Exit → Act → World → Prop) (hQ : ∀ us w', Below wc.heap.size wc w' → us 4 = .bool true → Q .normal ⟨(fill ((saOps zp).filterMap (·.dst)) us 0 xs).toArray, df⟩ w') :
    (Code.region 3 (saOps zp).toArray true).wp Try.prog Q ⟨xs.toArray, df⟩ wc := by
  refine wp_region_rel (C := fun w' => Below wc.heap.size wc w') (S := saS B g f k a b is) (Ev := fun a b => Below a.heap.size a b) (by kernel_rfl) (by kernel_rfl) saS_mono (belowD (Below.refl _ _)) ?_ ?_
  · refine And.intro (fun us w' hw hd => ?_) ?_
    · refine stepOf_plain rfl (opw (v := trV k a b) ?_ ⟨_, rfl, hw, rfl, Below.refl _ _⟩)
      have hx := fill_else ((saOps zp).filterMap (·.dst)) us xs df 5 _ x5 rfl
      have DP := B5.kept hw
      have hr := run_loadVar_seen (P := Try.prog) w' T5 30 #[.int .u8 k, .int .u32 a, .int .u8 b] _ (fun j v hv => (DP.cell j).trans hv) Try.underlying30 rfl (by kernel_rfl)
      unfold execOp
      simp only [hx, Instr.loadAt, Instr.sureAddr, Sem.run_bind, Sem.run_pure, Result.andThen_ok, hr]
    refine And.intro (fun us w' hw hd => ?_) ?_
    · refine stepOf_plain rfl (opw (v := trV k a b) ?_ ⟨_, rfl, hw, rfl, Below.refl _ _⟩)
      have hx := fill_else ((saOps zp).filterMap (·.dst)) us xs df 7 _ x7 rfl
      have DP := B7.kept hw
      have hr := run_loadVar_seen (P := Try.prog) w' T7 30 #[.int .u8 k, .int .u32 a, .int .u8 b] _ (fun j v hv => (DP.cell j).trans hv) Try.underlying30 rfl (by kernel_rfl)
      unfold execOp
      simp only [hx, Instr.loadAt, Instr.sureAddr, Sem.run_bind, Sem.run_pure, Result.andThen_ok, hr]
    refine And.intro (fun us w' hw hd => ?_) ?_
    · have h19 : us 19 = trV k a b := hd.1 rfl
      have h20 : us 20 = trV k a b := hd.2.1 rfl
      exact stepOf_plain rfl (opw (sa_2 (B := B) (g := g) (T5 := T5) (T7 := T7) (f := f) (k := k) (a := a) (b := b) (is := is) ((fill_slot _ us xs df 19 (by omega) rfl).trans h19) ((fill_slot _ us xs df 20 (by omega) rfl).trans h20)) ⟨_, rfl, hw, rfl, Below.refl _ _⟩)
    refine And.intro (fun us w' hw hd => ?_) ?_
    · have h21 : us 21 = .bool true := hd.1 rfl
      exact stepOf_plain rfl (opw (sa_3 (B := B) (g := g) (T5 := T5) (T7 := T7) (f := f) (k := k) (a := a) (b := b) (is := is) ((fill_slot _ us xs df 21 (by omega) rfl).trans h21)) ⟨_, rfl, hw, rfl, Below.refl _ _⟩)
    refine And.intro (fun us w' hw hd => ?_) ?_
    · have h22 : us 22 = .bool true := hd.1 rfl
      have hg : Region.wanted { dst := some 23, op := Op.move (Operand.tmp 6), type := 4, pos := zp, after := #[{ on := 3, ground := Ground.guard }], guard := some (3, true) } (yielded (saOps zp).toArray (fill ((saOps zp).filterMap (·.dst)) us 0 xs).toArray) = true := by
        show (yielded (saOps zp).toArray (fill ((saOps zp).filterMap (·.dst)) us 0 xs).toArray 3 == some true) = true
        rw [tl_guard (saOps zp) us xs 3 22 true rfl rfl (by omega) h22]; rfl
      exact stepOf_yes hg (opw (sa_4 (B := B) (g := g) (T5 := T5) (T7 := T7) (f := f) (k := k) (a := a) (b := b) (is := is) (fill_else _ us xs df 6 _ x6 rfl)) ⟨_, rfl, hw, rfl, Below.refl _ _⟩)
    refine And.intro (fun us w' hw hd => ?_) ?_
    · have h22 : us 22 = .bool true := hd.1 rfl
      have hg : Region.wanted { dst := some 24, op := Op.move (Operand.tmp 8), type := 4, pos := zp, after := #[{ on := 3, ground := Ground.guard }], guard := some (3, true) } (yielded (saOps zp).toArray (fill ((saOps zp).filterMap (·.dst)) us 0 xs).toArray) = true := by
        show (yielded (saOps zp).toArray (fill ((saOps zp).filterMap (·.dst)) us 0 xs).toArray 3 == some true) = true
        rw [tl_guard (saOps zp) us xs 3 22 true rfl rfl (by omega) h22]; rfl
      exact stepOf_yes hg (opw (sa_5 (B := B) (g := g) (T5 := T5) (T7 := T7) (f := f) (k := k) (a := a) (b := b) (is := is) (fill_else _ us xs df 8 _ x8 rfl)) ⟨_, rfl, hw, rfl, Below.refl _ _⟩)
    refine And.intro (fun us w' hw hd => ?_) ?_
    · have h23 : us 23 = .bool is := hd.1 rfl
      have h24 : us 24 = .bool is := hd.2.1 rfl
      have h22 : us 22 = .bool true := hd.2.2.1 rfl
      have hg : Region.wanted { dst := some 25, op := Op.binOp BinOp.eql 4 (Operand.tmp 23) (Operand.tmp 24) 4, type := 4, pos := zp, after := #[{ on := 4, ground := Ground.data }, { on := 5, ground := Ground.data }, { on := 3, ground := Ground.guard }], guard := some (3, true) } (yielded (saOps zp).toArray (fill ((saOps zp).filterMap (·.dst)) us 0 xs).toArray) = true := by
        show (yielded (saOps zp).toArray (fill ((saOps zp).filterMap (·.dst)) us 0 xs).toArray 3 == some true) = true
        rw [tl_guard (saOps zp) us xs 3 22 true rfl rfl (by omega) h22]; rfl
      exact stepOf_yes hg (opw (sa_6 (B := B) (g := g) (T5 := T5) (T7 := T7) (f := f) (k := k) (a := a) (b := b) (is := is) ((fill_slot _ us xs df 23 (by omega) rfl).trans h23) ((fill_slot _ us xs df 24 (by omega) rfl).trans h24)) ⟨_, rfl, hw, rfl, Below.refl _ _⟩)
    refine And.intro (fun us w' hw hd => ?_) ?_
    · have h22 : us 22 = .bool true := hd.1 rfl
      have h25 : us 25 = .bool true := hd.2.1 rfl
      exact stepOf_plain rfl (opw (sa_7 (B := B) (g := g) (T5 := T5) (T7 := T7) (f := f) (k := k) (a := a) (b := b) (is := is) ((fill_slot _ us xs df 22 (by omega) rfl).trans h22) ((fill_slot _ us xs df 25 (by omega) rfl).trans h25) (fun _ => rfl)) ⟨_, rfl, hw, rfl, Below.refl _ _⟩)
    refine And.intro (fun us w' hw hd => ?_) ?_
    · have h26 : us 26 = .bool true := hd.1 rfl
      have h22 : us 22 = .bool true := hd.2.1 rfl
      exact stepOf_plain rfl (opw (sa_8 (B := B) (g := g) (T5 := T5) (T7 := T7) (f := f) (k := k) (a := a) (b := b) (is := is) ((fill_slot _ us xs df 26 (by omega) rfl).trans h26)) ⟨_, rfl, hw, rfl, Below.refl _ _⟩)
    refine And.intro (fun us w' hw hd => ?_) ?_
    · have h27 : us 27 = .bool true := hd.1 rfl
      have hg : Region.wanted { dst := some 28, op := Op.move (Operand.tmp 0), type := 24, pos := zp, after := #[{ on := 8, ground := Ground.guard }], guard := some (8, true) } (yielded (saOps zp).toArray (fill ((saOps zp).filterMap (·.dst)) us 0 xs).toArray) = true := by
        show (yielded (saOps zp).toArray (fill ((saOps zp).filterMap (·.dst)) us 0 xs).toArray 8 == some true) = true
        rw [tl_guard (saOps zp) us xs 8 27 true rfl rfl (by omega) h27]; rfl
      exact stepOf_yes hg (opw (sa_9 (B := B) (g := g) (T5 := T5) (T7 := T7) (f := f) (k := k) (a := a) (b := b) (is := is) (fill_else _ us xs df 0 _ x0 rfl)) ⟨_, rfl, hw, rfl, Below.refl _ _⟩)
    refine And.intro (fun us w' hw hd => ?_) ?_
    · have h28 : us 28 = at_ g 0 := hd.1 rfl
      have h27 : us 27 = .bool true := hd.2.1 rfl
      have hg : Region.wanted { dst := some 29, op := Op.call { callee := Callee.value (Operand.func 25), args := #[Operand.tmp 28], argTypes := #[24] }, type := 40, pos := zp, after := #[{ on := 9, ground := Ground.data }, { on := 8, ground := Ground.chain }, { on := 8, ground := Ground.guard }], guard := some (8, true) } (yielded (saOps zp).toArray (fill ((saOps zp).filterMap (·.dst)) us 0 xs).toArray) = true := by
        show (yielded (saOps zp).toArray (fill ((saOps zp).filterMap (·.dst)) us 0 xs).toArray 8 == some true) = true
        rw [tl_guard (saOps zp) us xs 8 27 true rfl rfl (by omega) h27]; rfl
      refine stepOf_yes hg (opw_call (sa_10 ((fill_slot _ us xs df 28 (by omega) rfl).trans h28) (fun _ => rfl)) ?_)
      refine (savedDa_any (A.kept hw) R).mono ?_
      rintro e' w2 ⟨v2, rfl, hf, b2⟩
      exact ⟨_, rfl, _, rfl, belowStep hw b2, hf.weak (Nat.zero_le _), b2⟩
    refine And.intro (fun us w' hw hd => ?_) ?_
    · have h27 : us 27 = .bool true := hd.1 rfl
      have hg : Region.wanted { dst := some 30, op := Op.move (Operand.tmp 1), type := 47, pos := zp, after := #[{ on := 8, ground := Ground.guard }], guard := some (8, true) } (yielded (saOps zp).toArray (fill ((saOps zp).filterMap (·.dst)) us 0 xs).toArray) = true := by
        show (yielded (saOps zp).toArray (fill ((saOps zp).filterMap (·.dst)) us 0 xs).toArray 8 == some true) = true
        rw [tl_guard (saOps zp) us xs 8 27 true rfl rfl (by omega) h27]; rfl
      exact stepOf_yes hg (opw (sa_11 (B := B) (g := g) (T5 := T5) (T7 := T7) (f := f) (k := k) (a := a) (b := b) (is := is) (fill_else _ us xs df 1 _ x1 rfl)) ⟨_, rfl, hw, rfl, Below.refl _ _⟩)
    refine And.intro (fun us w' hw hd => ?_) ?_
    · have h30 : us 30 = at_ B 0 := hd.1 rfl
      have h27 : us 27 = .bool true := hd.2.1 rfl
      have hg : Region.wanted { dst := some 31, op := Op.nilCheck (Operand.tmp 30), type := 0, pos := zp, after := #[{ on := 11, ground := Ground.data }, { on := 8, ground := Ground.guard }], guard := some (8, true) } (yielded (saOps zp).toArray (fill ((saOps zp).filterMap (·.dst)) us 0 xs).toArray) = true := by
        show (yielded (saOps zp).toArray (fill ((saOps zp).filterMap (·.dst)) us 0 xs).toArray 8 == some true) = true
        rw [tl_guard (saOps zp) us xs 8 27 true rfl rfl (by omega) h27]; rfl
      exact stepOf_yes hg (opw (sa_12 (B := B) (g := g) (T5 := T5) (T7 := T7) (f := f) (k := k) (a := a) (b := b) (is := is) ((fill_slot _ us xs df 30 (by omega) rfl).trans h30)) ⟨_, rfl, hw, rfl, Below.refl _ _⟩)
    refine And.intro (fun us w' hw hd => ?_) ?_
    · have h31 : us 31 = at_ B 0 := hd.1 rfl
      have h27 : us 27 = .bool true := hd.2.1 rfl
      have hg : Region.wanted { dst := some 32, op := Op.load 51 (Operand.tmp 31), type := 51, pos := zp, after := #[{ on := 12, ground := Ground.data }, { on := 8, ground := Ground.guard }], guard := some (8, true) } (yielded (saOps zp).toArray (fill ((saOps zp).filterMap (·.dst)) us 0 xs).toArray) = true := by
        show (yielded (saOps zp).toArray (fill ((saOps zp).filterMap (·.dst)) us 0 xs).toArray 8 == some true) = true
        rw [tl_guard (saOps zp) us xs 8 27 true rfl rfl (by omega) h27]; rfl
      refine stepOf_yes hg (opw (v := .agg (dmA f)) ?_ ⟨_, rfl, hw, rfl, Below.refl _ _⟩)
      have hx := (fill_slot ((saOps zp).filterMap (·.dst)) us xs df 31 (by omega) rfl).trans h31
      have DP := K.kept hw
      have hr := run_loadVar_seen (P := Try.prog) w' B 51 (dmA f) _ (fun j v hv => by
        have hj : j < 104 := by have := (Array.getElem?_eq_some_iff.1 hv).1; rw [(dmA_row f).sz] at this; exact this
        rw [(dmA_row f).here j hj] at hv
        rw [← hv]
        exact DP.cell hj) Try.underlying51 rfl (by rw [(dmA_row f).sz]; kernel_rfl)
      unfold execOp
      simp only [hx, Instr.loadAt, Instr.sureAddr, Sem.run_bind, Sem.run_pure, Result.andThen_ok, hr]
    refine And.intro (fun us w' hw hd => ?_) ?_
    · have h32 : us 32 = .agg (dmA f) := hd.1 rfl
      have h29 : FileAt 0 (fileOf (dmB f)) (us 29) w' := hd.2.1 rfl
      have h27 : us 27 = .bool true := hd.2.2.1 rfl
      have hg : Region.wanted { dst := some 33, op := Op.call { callee := Callee.value (Operand.func 30), args := #[Operand.tmp 32], argTypes := #[51] }, type := 40, pos := zp, after := #[{ on := 13, ground := Ground.data }, { on := 10, ground := Ground.chain }, { on := 8, ground := Ground.guard }], guard := some (8, true) } (yielded (saOps zp).toArray (fill ((saOps zp).filterMap (·.dst)) us 0 xs).toArray) = true := by
        show (yielded (saOps zp).toArray (fill ((saOps zp).filterMap (·.dst)) us 0 xs).toArray 8 == some true) = true
        rw [tl_guard (saOps zp) us xs 8 27 true rfl rfl (by omega) h27]; rfl
      refine stepOf_yes hg (opw_call (sa_14 ((fill_slot _ us xs df 32 (by omega) rfl).trans h32) (fun _ => rfl)) ?_)
      refine (putDa_any _ _ (dmA_row f) R).mono ?_
      rintro e' w2 ⟨v2, rfl, hf, b2⟩
      exact ⟨_, rfl, _, rfl, belowStep hw b2, hf.weak (Nat.zero_le _), b2⟩
    refine And.intro (fun us w' hw hd => ?_) ?_
    · have h29 : FileAt 0 (fileOf (dmB f)) (us 29) w' := hd.1 rfl
      have h33 : FileAt 0 (fileOf (dmB f)) (us 33) w' := hd.2.1 rfl
      have h27 : us 27 = .bool true := hd.2.2.2.1 rfl
      have hg : Region.wanted { dst := some 34, op := Op.call { callee := Callee.value (Operand.func 34), args := #[Operand.tmp 29, Operand.tmp 33], argTypes := #[40, 40] }, type := 4, pos := zp, after := #[{ on := 10, ground := Ground.data }, { on := 14, ground := Ground.data }, { on := 14, ground := Ground.chain }, { on := 8, ground := Ground.guard }], guard := some (8, true) } (yielded (saOps zp).toArray (fill ((saOps zp).filterMap (·.dst)) us 0 xs).toArray) = true := by
        show (yielded (saOps zp).toArray (fill ((saOps zp).filterMap (·.dst)) us 0 xs).toArray 8 == some true) = true
        rw [tl_guard (saOps zp) us xs 8 27 true rfl rfl (by omega) h27]; rfl
      refine stepOf_yes hg (opw_call (sa_15 (fill_slot _ us xs df 29 (by omega) rfl) (fill_slot _ us xs df 33 (by omega) rfl) (fun _ => rfl)) ?_)
      refine (bytesF_any h29 h33 (by rw [file_len, dmB_len]; omega) (by rw [file_len, dmB_len]; omega)).mono ?_
      rintro e' w2 ⟨rfl, b2⟩
      exact ⟨_, rfl, _, rfl, belowStep hw b2, (by rw [decide_eq_true rfl]; rfl), b2⟩
    refine And.intro (fun us w' hw hd => ?_) ?_
    · have h27 : us 27 = .bool true := hd.1 rfl
      have h34 : us 34 = .bool true := hd.2.1 rfl
      exact stepOf_plain rfl (opw (sa_16 (B := B) (g := g) (T5 := T5) (T7 := T7) (f := f) (k := k) (a := a) (b := b) (is := is) ((fill_slot _ us xs df 27 (by omega) rfl).trans h27) ((fill_slot _ us xs df 34 (by omega) rfl).trans h34) (fun _ => rfl)) ⟨_, rfl, hw, rfl, Below.refl _ _⟩)
    refine And.intro (fun us w' hw hd => ?_) ?_
    · have h35 : us 35 = .bool true := hd.1 rfl
      have h34 : us 34 = .bool true := hd.2.1 rfl
      have h19 : us 19 = trV k a b := hd.2.2.1 rfl
      have h20 : us 20 = trV k a b := hd.2.2.2.1 rfl
      have h21 : us 21 = .bool true := hd.2.2.2.2.1 rfl
      have h22 : us 22 = .bool true := hd.2.2.2.2.2.1 rfl
      have h23 : us 23 = .bool is := hd.2.2.2.2.2.2.1 rfl
      have h24 : us 24 = .bool is := hd.2.2.2.2.2.2.2.1 rfl
      have h25 : us 25 = .bool true := hd.2.2.2.2.2.2.2.2.1 rfl
      have h26 : us 26 = .bool true := hd.2.2.2.2.2.2.2.2.2.1 rfl
      have h27 : us 27 = .bool true := hd.2.2.2.2.2.2.2.2.2.2.1 rfl
      have h28 : us 28 = at_ g 0 := hd.2.2.2.2.2.2.2.2.2.2.2.1 rfl
      have h29 : FileAt 0 (fileOf (dmB f)) (us 29) w' := hd.2.2.2.2.2.2.2.2.2.2.2.2.1 rfl
      have h30 : us 30 = at_ B 0 := hd.2.2.2.2.2.2.2.2.2.2.2.2.2.1 rfl
      have h31 : us 31 = at_ B 0 := hd.2.2.2.2.2.2.2.2.2.2.2.2.2.2.1 rfl
      have h32 : us 32 = .agg (dmA f) := hd.2.2.2.2.2.2.2.2.2.2.2.2.2.2.2.1 rfl
      have h33 : FileAt 0 (fileOf (dmB f)) (us 33) w' := hd.2.2.2.2.2.2.2.2.2.2.2.2.2.2.2.2.1 rfl
      exact stepOf_plain rfl (opw (sa_17 (B := B) (g := g) (T5 := T5) (T7 := T7) (f := f) (k := k) (a := a) (b := b) (is := is) ((fill_slot _ us xs df 35 (by omega) rfl).trans h35)) ⟨_, rfl, hw, rfl, Below.refl _ _⟩)
    exact trivial
  · intro us w' hw ha
    have h4 : us 4 = .bool true := ha.2.2.2.2.2.2.2.2.2.2.2.2.2.2.2.2.2.1
    exact hQ us w' hw h4
section
variable {w : World} {g B : Nat} {f r : Nat → Int}
set_option maxHeartbeats 4000000 in
theorem same_any (A : Da w g f) (K : Ra w B f) (I : Inv f) :
    Calls Try.prog 29 #[at_ g 0, at_ B 0] w (Says w (.bool true)) := by
  obtain ⟨⟨⟨k, a, b⟩, is⟩, hq⟩ : ∃ q, nxG f = q := ⟨_, rfl⟩
  have hv : nxGV f = .tuple #[trV k a b, .bool is] := by unfold nxGV; rw [hq]
  have DN : Hid (∀ w', Ra w' B f → Calls Try.prog 26 #[at_ B 0] w' (Says w' (.tuple #[trV k a b, .bool is]))) := Lib.hid (fun w' (K' : Ra w' B f) => by rw [← hv]; exact dnext_gen K' I)
  have PN : Hid (∀ w', Da w' g f → Calls Try.prog 11 #[at_ g 0] w' (Says w' (.tuple #[trV k a b, .bool is]))) := Lib.hid (fun w' (A' : Da w' g f) => by rw [← hv]; exact next_gen A' I)
  have HA := Lib.hid A
  have HK := Lib.hid K
  have HI := Lib.hid I
  clear A K I hq hv
  go_enter Try.func29, Try.ntmps29
  try simp only [List.append_eq, List.cons_append, List.nil_append]
  go_wp2_with fail
  refine (DN.out _ HK.out).mono ?_
  rintro e w1 ⟨rfl, hb1⟩
  have A1 := Lib.hid (HA.out.kept hb1)
  have K1 := Lib.hid (HK.out.kept hb1)
  have B1 := Lib.hid hb1
  clear hb1 DN HA HK
  go_upto_region 2 with (fail)
  obtain ⟨w2, hw2⟩ : ∃ w2, w2 = w1.alloc (.cells #[.int .u8 k, .int .u32 a, .int .u8 b] 30) := ⟨_, rfl⟩
  obtain ⟨T5, hT5⟩ : ∃ T, T = w1.heap.size := ⟨_, rfl⟩
  have X5 : Hid (Blk w2 T5 30 #[.int .u8 k, .int .u32 a, .int .u8 b]) := Lib.hid (by rw [hw2, hT5]; exact Blk.new _ _ _)
  have A2 : Hid (Da w2 g f) := Lib.hid (by rw [hw2]; exact A1.out.kept (belowA (Below.refl _ _) _))
  have K2 : Hid (Ra w2 B f) := Lib.hid (by rw [hw2]; exact K1.out.kept (belowA (Below.refl _ _) _))
  have B2 : Hid (Below w.heap.size w w2) := Lib.hid (by rw [hw2]; exact belowA B1.out _)
  rw [← hT5, ← hw2]
  clear hT5 hw2 A1 K1 B1
  go_wp2_with fail
  refine (PN.out _ A2.out).mono ?_
  rintro e w3 ⟨rfl, hb3⟩
  have X6 := Lib.hid (X5.out.kept hb3)
  have A3 := Lib.hid (A2.out.kept hb3)
  have K3 := Lib.hid (K2.out.kept hb3)
  have B3 := Lib.hid (B2.out.trans (hb3.mono B2.out.size))
  clear hb3 X5 A2 K2 B2 PN
  go_upto_region 3 with (fail)
  obtain ⟨w4, hw4⟩ : ∃ w4, w4 = w3.alloc (.cells #[.int .u8 k, .int .u32 a, .int .u8 b] 30) := ⟨_, rfl⟩
  obtain ⟨T7, hT7⟩ : ∃ T, T = w3.heap.size := ⟨_, rfl⟩
  have X7 : Hid (Blk w4 T7 30 #[.int .u8 k, .int .u32 a, .int .u8 b]) := Lib.hid (by rw [hw4, hT7]; exact Blk.new _ _ _)
  have Y5 : Hid (Blk w4 T5 30 #[.int .u8 k, .int .u32 a, .int .u8 b]) := Lib.hid (by rw [hw4]; exact X6.out.kept (belowA (Below.refl _ _) _))
  have A4 : Hid (Da w4 g f) := Lib.hid (by rw [hw4]; exact A3.out.kept (belowA (Below.refl _ _) _))
  have K4 : Hid (Ra w4 B f) := Lib.hid (by rw [hw4]; exact K3.out.kept (belowA (Below.refl _ _) _))
  have B4 : Hid (Below w.heap.size w w4) := Lib.hid (by rw [hw4]; exact belowA B3.out _)
  rw [← hT7, ← hw4]
  clear hT7 hw4 A3 K3 B3 X6
  refine sameReg A4.out K4.out HI.out.r Y5.out X7.out _ _ rfl rfl rfl rfl rfl rfl rfl _ ?_
  intro us w9 hb h4
  have B9 := Lib.hid (B4.out.trans (hb.mono B4.out.size))
  clear hb A4 K4 X7 Y5 B4
  rw [saOps_dst]
  simp only [fill, List.contains_cons, List.contains_nil, Nat.zero_add, Nat.reduceAdd, Nat.reduceBEq, Bool.or_false, Bool.or_true, Bool.false_or, Bool.true_or, Bool.or_self, Bool.false_eq_true, if_true, if_false]
  rw [h4]
  go_wp2_with fail
  go_ret
  exact ⟨rfl, B9.out⟩
end
end Go.Proofs.Ytkeikkkcmackeaa

namespace Go.Proofs.Ytkeikkkcmackeaa
open Go.RowKit
set_option linter.unusedVariables false
set_option linter.unusedSimpArgs false
set_option maxRecDepth 100000
/-- The unit in block g, the document's in B, an event in e. -/
structure Jo (W : World) (B g e : Nat) (ev : Array Value) (s d : Nat → Int) (w : World) : Prop where
  po : Da w g s
  dp : Ra w B d
  o : Blk w e 53 ev
  gB : g ≠ B
  ge : g ≠ e
  be : B ≠ e
  gW : W.heap.size ≤ g
  bW : W.heap.size ≤ B
  eW : W.heap.size ≤ e
  bel : Below W.heap.size W w
section
variable {W w w' : World} {B g e : Nat} {ev : Array Value} {s d s' d' : Nat → Int}
theorem Jo.kept (h : Jo W B g e ev s d w) (k : Below w.heap.size w w') : Jo W B g e ev s d w' := ⟨h.po.kept k, h.dp.kept k, h.o.kept k, h.gB, h.ge, h.be, h.gW, h.bW, h.eW, h.bel.trans (k.mono h.bel.size)⟩
theorem Jo.drew (h : Jo W B g e ev s d w) : Jo W B g e ev s d w.drew := h.kept (belowD (Below.refl _ _))
theorem Jo.prog (h : Jo W B g e ev s d w) (a : Da w' g s') (u : Upd w g w') : Jo W B g e ev s' d w' := ⟨a, u.arr h.dp (fun q => h.gB q.symm), u.blk h.o (fun q => h.ge q.symm), h.gB, h.ge, h.be, h.gW, h.bW, h.eW, u.out h.bel h.gW⟩
theorem Jo.doc (h : Jo W B g e ev s d w) (a : Ra w' B d') (u : Upd w B w') : Jo W B g e ev s d' w' := ⟨u.arr h.po h.gB, a, u.blk h.o (fun q => h.be q.symm), h.gB, h.ge, h.be, h.gW, h.bW, h.eW, u.out h.bel h.bW⟩
/-- Another unit. -/
theorem Jo.next (h : Jo W B g e ev s d w) {q : Nat} (hq : w.heap.size ≤ q) (a : Da w' q s') (k : Below w.heap.size w w') : Jo W B q e ev s' d w' :=
  ⟨a, h.dp.kept k, h.o.kept k, by have := h.dp.lt; omega, by have := h.o.lt; omega, h.be, Nat.le_trans h.bel.size hq, h.bW, h.eW, h.bel.trans (k.mono h.bel.size)⟩
end
/-- Between the events. -/
structure Jn (W : World) (B g : Nat) (s : Nat → Int) (w : World) : Prop where
  po : Da w g s
  dp : Ra w B s
  gB : g ≠ B
  gW : W.heap.size ≤ g
  bW : W.heap.size ≤ B
  bel : Below W.heap.size W w
  inv : Inv s
theorem Jn.open_ {W w w' : World} {B g : Nat} {s : Nat → Int} (h : Jn W B g s w) (ev : Array Value) (k : Below w.heap.size w w') (hb : Blk w' w.heap.size 53 ev) : Jo W B g w.heap.size ev s s w' :=
  ⟨h.po.kept k, h.dp.kept k, hb, h.gB, by have := h.po.lt; omega, by have := h.dp.lt; omega, h.gW, h.bW, h.bel.size, h.bel.trans (k.mono h.bel.size)⟩
theorem Jo.shut {W w : World} {B g e : Nat} {ev : Array Value} {s : Nat → Int} (h : Jo W B g e ev s s w) (I : Inv s) : Jn W B g s w := ⟨h.po, h.dp, h.gB, h.gW, h.bW, h.bel, I⟩
theorem lies_rng {f : Nat → Int} (R : Rng f) (i j : Nat) : 0 ≤ liesOf f i j ∧ liesOf f i j ≤ 4294967295 := by
  have h1 := R i
  have h2 := wordOf_rng R j
  unfold liesOf
  omega
theorem nx_rng {f : Nat → Int} (R : Rng f) : 0 ≤ (nxG f).1.2.1 ∧ (nxG f).1.2.1 ≤ 4294967295 := by
  unfold nxG
  split
  · unfold tbT
    split
    · exact lies_rng R _ _
    · have key : ∀ (b : Bool) (i j k l : Nat), 0 ≤ (if b then liesOf f i j else liesOf f k l) ∧ (if b then liesOf f i j else liesOf f k l) ≤ 4294967295 := fun b i j k l => by
        cases b
        · exact lies_rng R k l
        · exact lies_rng R i j
      exact key _ _ _ _ _
  · split
    · exact ⟨Int.le_refl _, by decide⟩
    · exact lies_rng R _ _
theorem rdV_two (f : Nat → Int) (p : Int) : ∃ a b, rdV f p = .tuple #[.int .u8 a, .bool b] := by
  unfold rdV
  split
  · exact ⟨_, _, rfl⟩
  · exact ⟨_, _, rfl⟩
section
open Go.ChangeShapes Go.WideShapes Go.ChangeAt
variable {H : Type} {enc : TypeId × Value → H} {P : Program} {W : World} {base : Nat} {v : Value} {d : DataW H} {p : List MemPlace}
/-- A slice of numbers, however long. -/
theorem openRow0 {T E : TypeId} {k : IntKind} (hT : P.underlying T = some (.slice E)) (hE : P.underlying E = some (.int k)) (hc : P.cellsOf E = 1)
    (hk : Value.okWide P W .any base T v) (h : DataW.Trod enc P W 0 (fun _ => true) true T v d p) :
    ∃ n f, Sees W k v n f ∧ n ≤ 9223372036854775807 ∧ ∀ j, j < n → (Lit.int k (f j)).wf = true := by
  obtain ⟨ao, len, cap, rfl⟩ := okWide_slice hT hk
  obtain ⟨fuel, hf⟩ := h
  rcases open_ints hT hE hc hf with ⟨hcs, hx⟩ | ⟨a, len', cap', zs, hcs, _, hl, hm, hz, hx, hcell, hwf⟩
  · simp [Value.cells] at hcs
    obtain ⟨rfl, rfl, rfl⟩ := hcs
    exact ⟨0, fun _ => 0, Sees.nil _ _ _ _, by omega, fun j hj => absurd hj (Nat.not_lt_zero _)⟩
  · simp [Value.cells] at hcs
    obtain ⟨rfl, rfl, rfl⟩ := hcs
    have hlz : len ≤ zs.length := by
      rw [hz]; simp; exact hl
    unfold maxLen at hm
    refine ⟨len, fun j => zs.getD j 0, ⟨some a, cap, rfl, ?_⟩, by omega, fun j hj => ?_⟩
    · rcases Nat.eq_zero_or_pos len with h0 | h0
      · exact Or.inl h0
      · have h1 := hcell 0 (by omega)
        rw [show a.add 0 = a by simp [Addr.add]] at h1
        have ha := flat_of h1
        obtain ⟨b, off, hba⟩ : ∃ b off, a = ⟨b, off, none⟩ := ⟨_, _, ha⟩
        subst hba
        exact Or.inr ⟨b, off, rfl, fun j hj => by rw [← add_flat]; exact hcell j (by omega)⟩
    · have hj' : j < zs.length := by omega
      exact hwf (zs.getD j 0) (by simp [List.getD_eq_getElem?_getD, hj'])
end
end Go.Proofs.Ytkeikkkcmackeaa
