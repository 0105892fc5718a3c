/- save: what a reader does: take, does. -/
import Derived.Test.YtkeikkkcmackeaaSaveJ
import Derived.Test.YtkeikkkcmackeaaSaveE
import Derived.Deep.WholeRow
namespace Go.Proofs.Ytkeikkkcmackeaa
open Go.RowKit Go.Shelf
set_option linter.unusedVariables false
set_option linter.unusedSimpArgs false
set_option maxRecDepth 100000
abbrev rdP (g : Nat) : Value := .pointer (some ⟨g, 0, none⟩)
section
variable {w : World} {g bg c a : Nat} {bs : List Int}
set_option maxHeartbeats 4000000 in
theorem take_any (H : Rd w g bg c a bs) (n : Nat) (hn : 0 < n) (h : a + n ≤ bs.length) :
    Calls Try.prog 86 #[rdP g, .int .i64 n] w (fun e w' => e = .returned (.slice (some ⟨bg, a, none⟩) n (c - a)) ∧ Rd w' g bg c (a + n) bs ∧ Upd w g w') := by
  have c0 : w.cell? ⟨g, 0, none⟩ = some (.slice (some ⟨bg, 0, none⟩) bs.length c) := H.blk.cell 0
  have c1 : w.cell? ⟨g, 1, none⟩ = some (.int .i64 a) := H.blk.cell 1
  have c2 : w.cell? ⟨g, 2, none⟩ = some (.int .i64 bs.length) := H.blk.cell 2
  have f1 := H.blk.frozen 1
  have hcap := H.cap
  have hfew := H.few
  have hhere := H.here
  have HS : Hid (Rd (w.setCell ⟨g, 1, none⟩ (.int .i64 ((a + n : Nat) : Int))) g bg c (a + n) bs) := Lib.hid (H.set (a + n) h)
  obtain ⟨m, hm⟩ : ∃ m, bs.length = m := ⟨_, rfl⟩
  rw [hm] at c0 c2 hcap hfew hhere h
  clear H hm
  have q1 : (n : Int) ≤ (m : Int) - a := by omega
  have q2 : ¬ ((m : Int) - a < n) := by omega
  have q3 : IntKind.i64.wrap ((m : Int) - a) = (m : Int) - a := by rw [IntKind.wrap_i64]; omega
  have q4 : IntKind.i64.wrap ((a : Int) + n) = (a : Int) + n := by rw [IntKind.wrap_i64]; omega
  go_enter Try.func86, Try.ntmps86
  go_wp2_with fail
  go_quiet (fail)
  go_wp2_with fail
  go_quiet (fail)
  go_wp2_with fail
  go_ret
  refine ⟨?_, ?_, ?_⟩
  · show Ending.returned (Value.slice (some ⟨bg, a, none⟩) (a + n - a) (c - a)) = _
    rw [Nat.add_sub_cancel_left]
  · have := HS.out
    rw [Int.natCast_add] at this
    exact this.kept (belowN (Below.refl _ _) _)
  · exact ((Upd.refl _ _).set _ _).drewN _
theorem rdCells_size (bg n c a : Nat) : (rdCells bg n c a).size = 20 := rfl
theorem rdCells_one (bg n c a : Nat) : (rdCells bg n c a).all (·.oneCell') = true := by simp [rdCells, Value.oneCell']
/-- Behind what was done nothing is restored. -/
theorem restore_idle (be bw br : Nat) (w : World) (h : w.cell? ⟨be, 0, none⟩ = some (.int .i64 0)) :
    CallsD Try.prog 92 #[.pointer (some ⟨be, 0, none⟩), .pointer (some ⟨bw, 0, none⟩), .pointer (some ⟨br, 0, none⟩)] .returning w fun e u' w' => u' = .returning ∧ (e = .returned (.tuple #[]) ∧ w' = w) := by
  go_enter_d Try.func92, Try.ntmps92
  go_wp2_with fail
  go_end0
  exact ⟨rfl, rfl⟩
/-- Only blocks g and v may have changed of what was there. -/
def Upd2 (W : World) (g v : Nat) (w' : World) : Prop := w'.os = W.os ∧ w'.tape = W.tape ∧ w'.output = W.output ∧ W.heap.size ≤ w'.heap.size ∧ ∀ i, i < W.heap.size → i ≠ g → i ≠ v → w'.heap[i]? = W.heap[i]?
theorem Upd2.trans {a b c : World} {g v : Nat} (h : Upd2 a g v b) (k : Upd2 b g v c) : Upd2 a g v c :=
  ⟨k.1.trans h.1, k.2.1.trans h.2.1, k.2.2.1.trans h.2.2.1, Nat.le_trans h.2.2.2.1 k.2.2.2.1, fun i hi n m => (k.2.2.2.2 i (Nat.lt_of_lt_of_le hi h.2.2.2.1) n m).trans (h.2.2.2.2 i hi n m)⟩
theorem Upd2.ofBelow {a b : World} (h : Below a.heap.size a b) (g v : Nat) : Upd2 a g v b := ⟨h.os, h.tape, h.output, h.size, fun i hi _ _ => h.block i hi⟩
theorem Upd2.ofUpd {a b : World} {g v : Nat} (h : Upd a g b) : Upd2 a g v b := ⟨h.os, h.tape, h.output, h.size, fun i hi n _ => h.block i hi n⟩
/-- What was done to a value's own block is nothing to what was there before. -/
theorem Upd2.upd {W a b : World} {g v : Nat} (h : Upd2 a g v b) (hb : Below W.heap.size W a) (hv : W.heap.size ≤ v) : Upd W g b :=
  ⟨h.1.trans hb.os, h.2.1.trans hb.tape, h.2.2.1.trans hb.output, Nat.le_trans hb.size h.2.2.2.1, fun i hi n => (h.2.2.2.2 i (Nat.lt_of_lt_of_le hi hb.size) n (by omega)).trans (hb.block i hi)⟩
def DoR (W : World) (g bg c a' : Nat) (bs : List Int) (vb : Nat) (T : TypeId) (x : Value) (w' : World) : Prop := Rd w' g bg c a' bs ∧ Blk w' vb T #[x] ∧ Upd2 W g vb w'
theorem DoR.kept {W : World} {g bg c a' : Nat} {bs : List Int} {vb : Nat} {T : TypeId} {x : Value} {w' w2 : World} (h : DoR W g bg c a' bs vb T x w') (k : Below w'.heap.size w' w2) : DoR W g bg c a' bs vb T x w2 :=
  ⟨h.1.kept k, h.2.1.kept k, h.2.2.trans (Upd2.ofBelow k _ _)⟩
set_option maxHeartbeats 4000000 in
theorem doesR_any (H : Rd w g bg c a bs) (F : Nat) (caps : Array Value) (eg : ∀ args w, (callFunc F args).run Try.prog w = .ok (.enter F args) w) (vb a' : Nat) (T : TypeId) (x : Value) (hv : vb < w.heap.size)
    (hcall : ∀ w2, Below w.heap.size w w2 → Calls Try.prog F caps w2 fun e w' => e = .returned (.tuple #[]) ∧ DoR w2 g bg c a' bs vb T x w') :
    Calls Try.prog 84 #[rdP g, .func (.func F) #[] caps] w fun e w' => e = .returned (.int .i64 0) ∧ DoR w g bg c a' bs vb T x w' := by
  have hlt := H.lt
  have HC := Lib.hid hcall
  have HH := Lib.hid H
  clear hcall H
  go_enter_defers Try.func84, Try.ntmps84
  go_upto_region 3 with (fail)
  obtain ⟨B, hB⟩ : ∃ B, B = w.heap.size := ⟨_, rfl⟩
  obtain ⟨W2, hW⟩ : ∃ W2, W2 = (w.alloc (.cells #[rdP g] 62)).alloc (.cells #[.int .i64 0] 54) := ⟨_, rfl⟩
  have hz : W2.heap.size = B + 2 := by rw [hW, hB]; simp
  have cb : Below w.heap.size w W2 := by rw [hW]; exact belowA (belowA (Below.refl _ _) _) _
  have k0 : Blk W2 B 62 #[rdP g] := by rw [hW, hB]; exact (Blk.new _ _ _).alloc _
  have k1 : Blk W2 (B + 1) 54 #[.int .i64 0] := by
    rw [hW, hB]
    have := Blk.new (w.alloc (.cells #[rdP g] 62)) 54 #[.int .i64 0]
    simpa using this
  rw [← hW, ← hB]
  have hg : W2.heap[g]? = some (.cells (rdCells bg bs.length c a) 104 (0, 0)) := (HH.out.kept cb).blk
  have hs := rdCells_size bg bs.length c a
  have h1 := rdCells_one bg bs.length c a
  obtain ⟨cs, hcs⟩ : ∃ cs, rdCells bg bs.length c a = cs := ⟨_, rfl⟩
  rw [hcs] at hg hs h1
  have CB := Lib.hid cb
  have K0 := Lib.hid k0
  have K1 := Lib.hid k1
  have c0 := k0.cell 0
  have HG := Lib.hid hg
  have HZ := Lib.hid hz
  have HB := Lib.hid hB
  have hgb : g < B := by omega
  have hi : (Try.prog.info? 104).map (·.size) = some cs.size := by rw [hs]; kernel_rfl
  have HI := Lib.hid hi
  have hst : ∀ (C : Array Value), C.size = 20 → (storeCells ⟨W2.heap.size, 0, none⟩ cs.toList 0).run Try.prog (W2.alloc (.cells C 104)) = .ok () (W2.alloc (.cells cs 104)) := fun C hC => Go.run_storeCells_new W2 104 C cs hi (by rw [hC, hs]) h1
  have hst0 := hst #[.slice none 0 0, .int .i64 0, .int .i64 0, .int .i64 0, .int .i64 0, .int .i64 0, .int .i64 0, .int .i64 0, .int .i64 0, .int .i64 0, .int .i64 0, .int .i64 0, .int .i64 0, .int .i64 0, .int .i64 0, .int .i64 0, .int .i64 0, .int .i64 0, .int .i64 0, .int .i64 0] rfl
  clear hW cb hB k0 k1 hcs hg hz hi h1 hst
  go_wp2_with (first | (refine wpList_load_row rfl 104 (.tmp 9) rfl g rfl 104 cs (0, 0) _ HG.out Try.underlying104 rfl HI.out ?_))
  obtain ⟨W3, hW3⟩ : ∃ W3, W3 = W2.alloc (.cells cs 104) := ⟨_, rfl⟩
  have b3 : Below W2.heap.size W2 W3 := by rw [hW3]; exact belowA (Below.refl _ _) _
  rw [← hW3]
  have HC3 := Lib.hid (HC.out W3 (CB.out.trans (b3.mono CB.out.size)))
  have c1 : W3.cell? ⟨B + 1, 0, none⟩ = some (.int .i64 0) := keepC b3 (K1.out.cell 0)
  have f1 : W3.frozen? ⟨B + 1, 0, none⟩ = false := (b3.frozen (p := ⟨B + 1, 0, none⟩) K1.out.lt).trans (K1.out.frozen 0)
  have B3 := Lib.hid b3
  have hl1 := World.block_lt_of_cell? _ _ c1
  simp only at hl1
  clear hW3 b3 hst0 HC
  refine HC3.out.mono ?_
  rintro e w4 ⟨rfl, d4⟩
  have hvb : vb < B := by rw [HB.out]; exact hv
  have hk : w4.heap[B + 1]? = W3.heap[B + 1]? := d4.2.2.2.2.2.2 (B + 1) hl1 (by omega) (by omega)
  have e1 : w4.cell? ⟨B + 1, 0, none⟩ = some (.int .i64 0) := (World.cell?_of_block hk).trans c1
  have g1 : w4.frozen? ⟨B + 1, 0, none⟩ = false := (World.frozen?_of_block hk).trans f1
  have D4 := Lib.hid d4
  clear hk d4 c1 f1 HC3 c0
  go_wp2_with fail
  have e2 : (w4.setCell ⟨B + 1, 0, none⟩ (.int .i64 0)).cell? ⟨B + 1, 0, none⟩ = some (.int .i64 0) := World.cell?_setCell_same' _ _ _ (by rw [e1]; rfl)
  have hl4 : w.heap.size ≤ B + 1 := by have := HB.out; omega
  have FIN : Hid (DoR w g bg c a' bs vb T x (w4.setCell ⟨B + 1, 0, none⟩ (.int .i64 0))) := Lib.hid (by
    obtain ⟨d1, d2, d3⟩ := D4.out
    have hB1 : B + 1 ≠ bg := by have := HH.out.room; omega
    have hB2 : B + 1 ≠ g := by omega
    have hB3 : B + 1 ≠ vb := by omega
    refine ⟨d1.newer hB2 hB1 _, d2.other hB3 _, ?_⟩
    have t := (Upd2.ofBelow (CB.out.trans (B3.out.mono CB.out.size)) g vb).trans d3
    exact ⟨t.1, t.2.1, t.2.2.1, by simpa [World.setCell] using t.2.2.2.1, fun i hi n m => (Below.heap_setCell _ _ _ _ (by show i ≠ B + 1; omega)).trans (t.2.2.2.2 i hi n m)⟩)
  refine leaves_cons (f := 90) (args := #[.pointer (some ⟨B + 1, 0, none⟩)]) (by simp) (by simp [go_sem]) ?_
  refine (caught_idle ⟨B + 1, 0, none⟩ _).mono ?_
  rintro e u' w'' ⟨rfl, rfl, rfl⟩
  refine leaves_cons (f := 92) (args := #[.pointer (some ⟨B + 1, 0, none⟩), .pointer (some ⟨W2.heap.size, 0, none⟩), .pointer (some ⟨B, 0, none⟩)]) (by first | decide | simp [settle]) (by simp [go_sem]) ?_
  refine (restore_idle (B + 1) W2.heap.size B _ e2).mono ?_
  rintro e u' w'' ⟨rfl, rfl, rfl⟩
  simp [Leaves, settle, results, Try.results84, go_sem, e2]
  exact FIN.out
end
end Go.Proofs.Ytkeikkkcmackeaa
