/- save: a reader in memory; slices.Clone, NewReader. save: what a reader does: take, does. -/
import Derived.Test.YtkeikkkcmackeaaSaveI
import Derived.Test.YtkeikkkcmackeaaSaveNs
import Derived.Laws.BytesArg
import Derived.Lib.SlBytesRow
import Derived.Lib.SliceRun
import Derived.Test.YtkeikkkcmackeaaSaveEs
import Derived.Deep.WholeRow
namespace Go.Proofs.Ytkeikkkcmackeaa
open Go.RowKit
set_option linter.unusedVariables false
set_option linter.unusedSimpArgs false
set_option maxRecDepth 100000
/-- A reader's cells. -/
def rdCells (bg n c at_ : Nat) : Array Value := #[.slice (some ⟨bg, 0, none⟩) n c, .int .i64 at_, .int .i64 n, .int .i64 0, .int .i64 0, .int .i64 0, .int .i64 0, .int .i64 0, .int .i64 0, .int .i64 0, .int .i64 0, .int .i64 0, .int .i64 0, .int .i64 0, .int .i64 0, .int .i64 0, .int .i64 0, .int .i64 0, .int .i64 0, .int .i64 0]
/-- A reader at block g, of bytes bs that lie in block bg; it has come to at_. -/
structure Rd (w : World) (g bg c at_ : Nat) (bs : List Int) : Prop where
  blk : Blk w g 104 (rdCells bg bs.length c at_)
  bytes : ∀ j u, bs[j]? = some u → w.cell? ⟨bg, j, none⟩ = some (.int .u8 u)
  apart : bg ≠ g
  cap : bs.length ≤ c
  few : bs.length ≤ 1048576
  here : at_ ≤ bs.length
  byts : Byts bs
  room : bg < w.heap.size
section
variable {w w' : World} {g bg c at_ : Nat} {bs : List Int}
theorem Rd.kept (h : Rd w g bg c at_ bs) (hb : Below w.heap.size w w') : Rd w' g bg c at_ bs := ⟨h.blk.kept hb, fun j u hj => keepC hb (h.bytes j u hj), h.apart, h.cap, h.few, h.here, h.byts, Nat.lt_of_lt_of_le h.room hb.size⟩
theorem Rd.upd (h : Rd w g bg c at_ bs) {p : Nat} (hu : Upd w p w') (n : p ≠ g) (n2 : p ≠ bg) : Rd w' g bg c at_ bs :=
  ⟨hu.blk h.blk (fun e => n e.symm), fun j u hj => keepU hu (h.bytes j u hj) (fun e => n2 e.symm), h.apart, h.cap, h.few, h.here, h.byts, Nat.lt_of_lt_of_le h.room hu.size⟩
theorem Rd.lt (h : Rd w g bg c at_ bs) : g < w.heap.size := h.blk.lt
theorem Rd.set (h : Rd w g bg c at_ bs) (k : Nat) (hk : k ≤ bs.length) : Rd (w.setCell ⟨g, 1, none⟩ (.int .i64 k)) g bg c k bs :=
  ⟨h.blk.set_ 1 _, fun j u hj => keepSet (h.bytes j u hj) h.apart, h.apart, h.cap, h.few, hk, h.byts, by simpa [World.setCell] using h.room⟩
theorem Rd.newer (h : Rd w g bg c at_ bs) {p : Addr} (n : p.block ≠ g) (n2 : p.block ≠ bg) (v : Value) : Rd (w.setCell p v) g bg c at_ bs :=
  ⟨h.blk.other n _, fun j u hj => keepSet (h.bytes j u hj) (fun e => n2 e.symm), h.apart, h.cap, h.few, h.here, h.byts, by simpa [World.setCell] using h.room⟩
end
set_option maxHeartbeats 2000000 in
/-- slices.Clone of bytes. -/
theorem clone_any (w : World) (g off c : Nat) (bs : List Int) (h0 : bs ≠ []) (hl : bs.length ≤ 1048576) (hc : ∀ j u, bs[j]? = some u → w.cell? ⟨g, off + j, none⟩ = some (.int .u8 u)) :
    Calls Try.prog 60 #[.slice (some ⟨g, off, none⟩) bs.length c] w (fun e w' => ∃ bv, e = .returned bv ∧ SRow w' w.heap.size bv bs ∧ Below w.heap.size w w') := by
  obtain ⟨i0, hi, hz0, hz1, hz2⟩ := info_parts saU8
  have hb1 := belowA (Below.refl w.heap.size w) (.cells #[] 5)
  have NW : Hid (∀ j u, (bs.map (Value.int .u8))[j]? = some u → (w.alloc (.cells #[] 5)).cell? ((⟨g, off, none⟩ : Addr).add j) = some u) := Lib.hid (pcNews (fun j u hj => keepC hb1 (hc j u hj)))
  have ONE := Lib.hid (oneNews bs)
  have HB := Lib.hid hb1
  clear hc hb1
  have own : (w.alloc (.cells #[] 5)).ownsRow w.heap.size 5 1 (.slice (some ⟨w.heap.size, 0, none⟩) 0 0) 0 [] := ⟨rfl, Or.inr ⟨w.heap.size, 0, #[], rfl, Nat.le_refl _, heap_alloc_new w _, by simp, by unfold maxLen; omega, by simp, by simp⟩⟩
  obtain ⟨n, hn⟩ : ∃ n, bs.length = n := ⟨_, rfl⟩
  have HL : Hid ((bs.map (Value.int .u8)).length = n * 1) := Lib.hid (by rw [List.length_map, hn, Nat.mul_one])
  have HN := Lib.hid hn
  rw [hn] at hl ⊢
  clear hn h0
  have hne : ∀ w : World, (binOp .eql 40 (.slice (some ⟨g, off, none⟩) n c) (.slice none 0 0)).run Try.prog w = .ok (.bool false) w := fun w => Lib.run_eql_slice_nil w _ _ _ _ _ _ _ Try.underlying40
  go_enter Try.func60, Try.ntmps60
  go_wp2_with (first
    | (at_builtin; refine wpList_append_own_at _ rfl _ _ 40 rfl w.heap.size 5 i0 (.int .u8 0) 1 1 Try.underlying40 hi hz0 hz1 hz2 rfl (by decide) _ 0 _ rfl own ⟨g, off, none⟩ n c (bs.map (Value.int .u8)) rfl HL.out NW.out ONE.out (by unfold maxLen; omega) (by omega) (by simp) ?_; intro v1 w1 own1 hg1 hnil1 hat1))
  have R3 : Hid (SRow w1 w.heap.size v1 bs) := Lib.hid (by rw [Nat.zero_add, ← HN.out] at own1; exact own1)
  have B3 := Lib.hid (HB.out.grown hg1 (by simp) (fun k e => own_base' own e))
  clear own own1 hg1 hnil1 hat1
  go_ret
  exact ⟨_, rfl, R3.out, B3.out⟩
def NewR (W : World) (bs : List Int) (e : Ending) (w' : World) : Prop := ∃ g bg c, e = .returned (.tuple #[.pointer (some ⟨g, 0, none⟩), .int .i64 0]) ∧ W.heap.size ≤ g ∧ W.heap.size ≤ bg ∧ Rd w' g bg c 0 bs ∧ Below W.heap.size W w'
theorem file_at {bs : List Int} : (fileOf bs)[0]? = some 76 ∧ (fileOf bs)[1]? = some 65 ∧ (fileOf bs)[2]? = some 78 ∧ (fileOf bs)[3]? = some 84 ∧ (fileOf bs)[4]? = some 1 :=
  ⟨rfl, rfl, rfl, rfl, rfl⟩
theorem file_len4 {bs : List Int} (j : Nat) (u : Int) (h : (le 4 bs.length)[j]? = some u) : (fileOf bs)[5 + j]? = some u := by
  have hj : j < 4 := by have := (List.getElem?_eq_some_iff.1 h).1; rwa [le_len] at this
  unfold fileOf
  rw [List.append_assoc, List.append_assoc, List.getElem?_append_right (by simp), List.getElem?_append_left (by simp [le_len]; omega)]
  simpa using h
theorem file_sum4 {bs : List Int} (j : Nat) (u : Int) (h : (le 4 (sumOf bs))[j]? = some u) : (fileOf bs)[9 + j]? = some u := by
  have hj : j < 4 := by have := (List.getElem?_eq_some_iff.1 h).1; rwa [le_len] at this
  unfold fileOf
  rw [List.append_assoc, List.getElem?_append_right (by simp [le_len]), List.getElem?_append_left (by simp [le_len]; omega)]
  rw [← h]; congr 1; simp [le_len]
theorem file_body {bs : List Int} (j : Nat) (u : Int) (h : bs[j]? = some u) : (fileOf bs)[13 + j]? = some u := by
  unfold fileOf
  rw [List.getElem?_append_right (by simp [le_len])]
  rw [← h]; congr 1; simp [le_len]
set_option maxHeartbeats 8000000 in
theorem newR_any (w : World) (v : Value) (bs : List Int) (B : Nat) (h : FileAt B (fileOf bs) v w) (ne : bs ≠ []) (hb : Byts bs) (hl : bs.length ≤ 1000000) :
    Calls Try.prog 31 #[v] w (NewR w bs) := by
  obtain ⟨g, c, rfl, _, hcap, hc⟩ := h
  rw [file_len] at hcap ⊢
  have C0 := hc 0 76 file_at.1
  have C4 := hc 4 1 file_at.2.2.2.2
  have hcv : (convert 40 9 (.slice (some ⟨g, 0, none⟩) 4 c)).run Try.prog w = .ok (.string ⟨#[76, 65, 78, 84]⟩) w :=
    run_convert_bytes_arg (P := Try.prog) w 40 5 Try.underlying40 Try.underlying5 g 0 4 c [76, 65, 78, 84] rfl (fun i hi => by
      rw [Nat.zero_add]
      match i, hi with
      | 0, _ => exact hc 0 76 file_at.1
      | 1, _ => exact hc 1 65 file_at.2.1
      | 2, _ => exact hc 2 78 file_at.2.2.1
      | 3, _ => exact hc 3 84 file_at.2.2.2.1) 9 Try.underlying9
  have CL := Lib.hid (clone_any w g 13 (c - 13) bs ne (by omega) (fun j u hj => hc (13 + j) u (file_body j u hj)))
  have N1 : Hid (∀ w', Below w.heap.size w w' → Calls Try.prog 61 #[.slice (some ⟨g, 5, none⟩) 4 (c - 5)] w' (fun e w'' => e = .returned (.int .u32 (bs.length : Nat)) ∧ Below w'.heap.size w' w'')) := Lib.hid (fun w' hb' => by
    have := number32_any w' g 5 (c - 5) (le 4 bs.length) (le_byte _ _) (le_len _ _) (fun j u hj => keepC hb' (hc _ u (file_len4 j u hj)))
    rwa [num_le 4 _ (by omega) (by rw [show (256 : Int) ^ 4 = 4294967296 by decide]; omega)] at this)
  have N2 : Hid (∀ w', Below w.heap.size w w' → Calls Try.prog 61 #[.slice (some ⟨g, 9, none⟩) 4 (c - 9)] w' (fun e w'' => e = .returned (.int .u32 (sumOf bs)) ∧ Below w'.heap.size w' w'')) := Lib.hid (fun w' hb' => by
    have := number32_any w' g 9 (c - 9) (le 4 (sumOf bs)) (le_byte _ _) (le_len _ _) (fun j u hj => keepC hb' (hc _ u (file_sum4 j u hj)))
    rwa [num_le 4 _ (sumOf_rng bs).1 (by rw [show (256 : Int) ^ 4 = 4294967296 by decide]; have := (sumOf_rng bs).2; omega)] at this)
  have NE := Lib.hid ne
  have HB := Lib.hid hb
  have hl0 : 0 < bs.length := List.length_pos_iff.mpr ne
  have LN : Hid (bs.length ≤ 1000000) := Lib.hid hl
  obtain ⟨n, hn⟩ : ∃ n, bs.length = n := ⟨_, rfl⟩
  have HN := Lib.hid hn
  rw [hn] at hcap hl hl0 CL N1 ⊢
  have WU : IntKind.u32.wrap (n : Int) = n := by simp [IntKind.wrap, IntKind.bits, IntKind.signed]; omega
  clear hc ne hb hn
  go_enter Try.func31, Try.ntmps31
  go_wp2_with fail
  refine CL.out.mono ?_
  rintro e w1 ⟨bv, rfl, r1, b1⟩
  obtain ⟨ga, ca, rfl, hga, hcap2, hca⟩ := r1.at2 NE.out
  have R1 := Lib.hid r1
  have B1 := Lib.hid b1
  have HCA := Lib.hid hca
  have HCP := Lib.hid hcap2
  have hgl : ga < w1.heap.size := r1.lt rfl
  rw [HN.out]
  clear r1 b1 hca CL hcap2
  go_wp2_with fail
  refine (N1.out _ B1.out).mono ?_
  rintro e w2 ⟨rfl, hb2⟩
  have B2 := Lib.hid (B1.out.trans (hb2.mono B1.out.size))
  have S2 : Hid (Sees w2 .u8 (.slice (some ⟨ga, 0, none⟩) n ca) bs.length (fun j => bs.getD j 0)) := Lib.hid (by rw [← HN.out]; exact (R1.out.below hb2).sees)
  have H2 := Lib.hid hb2
  clear hb2 N1
  go_wp2_with fail
  refine (N2.out _ B2.out).mono ?_
  rintro e w3 ⟨rfl, hb3⟩
  have B3 := Lib.hid (B2.out.trans (hb3.mono B2.out.size))
  have H3 := Lib.hid (H2.out.trans (hb3.mono H2.out.size))
  have SU := Lib.hid (sum_any _ bs w3 (S2.out.kept hb3) HB.out (by have := LN.out; omega))
  clear hb3 N2
  go_wp2_with fail
  refine SU.out.mono ?_
  rintro e w4 ⟨rfl, rfl⟩
  clear SU
  go_wp2_with fail
  go_ret2
  refine ⟨w3.heap.size, ga, ca, rfl, B3.out.size, hga, ⟨?_, ?_, ?_, ?_, ?_, ?_, ?_, ?_⟩, belowA B3.out _⟩
  · rw [HN.out]
    exact Blk.new _ _ _
  · exact fun j u hj => keepC (belowA (Below.refl _ _) _) (keepC H3.out (HCA.out j u hj))
  · have := H3.out.size; omega
  · exact HCP.out
  · have := LN.out; omega
  · exact Nat.zero_le _
  · exact HB.out
  · have := H3.out.size; simp; omega
end Go.Proofs.Ytkeikkkcmackeaa

namespace Go.Proofs.Ytkeikkkcmackeaa
open Go.RowKit Go.Shelf
set_option linter.unusedVariables false
set_option linter.unusedSimpArgs false
set_option maxRecDepth 100000
abbrev rdP (g : Nat) : Value := .pointer (some ⟨g, 0, none⟩)
section
variable {w : World} {g bg c a : Nat} {bs : List Int}
set_option maxHeartbeats 4000000 in
theorem take_any (H : Rd w g bg c a bs) (n : Nat) (hn : 0 < n) (h : a + n ≤ bs.length) :
    Calls Try.prog 86 #[rdP g, .int .i64 n] w (fun e w' => e = .returned (.slice (some ⟨bg, a, none⟩) n (c - a)) ∧ Rd w' g bg c (a + n) bs ∧ Upd w g w') := by
  have c0 : w.cell? ⟨g, 0, none⟩ = some (.slice (some ⟨bg, 0, none⟩) bs.length c) := H.blk.cell 0
  have c1 : w.cell? ⟨g, 1, none⟩ = some (.int .i64 a) := H.blk.cell 1
  have c2 : w.cell? ⟨g, 2, none⟩ = some (.int .i64 bs.length) := H.blk.cell 2
  have f1 := H.blk.frozen 1
  have hcap := H.cap
  have hfew := H.few
  have hhere := H.here
  have HS : Hid (Rd (w.setCell ⟨g, 1, none⟩ (.int .i64 ((a + n : Nat) : Int))) g bg c (a + n) bs) := Lib.hid (H.set (a + n) h)
  obtain ⟨m, hm⟩ : ∃ m, bs.length = m := ⟨_, rfl⟩
  rw [hm] at c0 c2 hcap hfew hhere h
  clear H hm
  have q1 : (n : Int) ≤ (m : Int) - a := by omega
  have q2 : ¬ ((m : Int) - a < n) := by omega
  have q3 : IntKind.i64.wrap ((m : Int) - a) = (m : Int) - a := by rw [IntKind.wrap_i64]; omega
  have q4 : IntKind.i64.wrap ((a : Int) + n) = (a : Int) + n := by rw [IntKind.wrap_i64]; omega
  go_enter Try.func86, Try.ntmps86
  go_wp2_with fail
  go_quiet (fail)
  go_wp2_with fail
  go_quiet (fail)
  go_wp2_with fail
  go_ret
  refine ⟨?_, ?_, ?_⟩
  · show Ending.returned (Value.slice (some ⟨bg, a, none⟩) (a + n - a) (c - a)) = _
    rw [Nat.add_sub_cancel_left]
  · have := HS.out
    rw [Int.natCast_add] at this
    exact this.kept (belowN (Below.refl _ _) _)
  · exact ((Upd.refl _ _).set _ _).drewN _
theorem rdCells_size (bg n c a : Nat) : (rdCells bg n c a).size = 20 := rfl
theorem rdCells_one (bg n c a : Nat) : (rdCells bg n c a).all (·.oneCell') = true := by simp [rdCells, Value.oneCell']
/-- Behind what was done nothing is restored. -/
theorem restore_idle (be bw br : Nat) (w : World) (h : w.cell? ⟨be, 0, none⟩ = some (.int .i64 0)) :
    CallsD Try.prog 92 #[.pointer (some ⟨be, 0, none⟩), .pointer (some ⟨bw, 0, none⟩), .pointer (some ⟨br, 0, none⟩)] .returning w fun e u' w' => u' = .returning ∧ (e = .returned (.tuple #[]) ∧ w' = w) := by
  go_enter_d Try.func92, Try.ntmps92
  go_wp2_with fail
  go_end0
  exact ⟨rfl, rfl⟩
/-- Only blocks g and v may have changed of what was there. -/
def Upd2 (W : World) (g v : Nat) (w' : World) : Prop := w'.os = W.os ∧ w'.tape = W.tape ∧ w'.output = W.output ∧ W.heap.size ≤ w'.heap.size ∧ ∀ i, i < W.heap.size → i ≠ g → i ≠ v → w'.heap[i]? = W.heap[i]?
theorem Upd2.trans {a b c : World} {g v : Nat} (h : Upd2 a g v b) (k : Upd2 b g v c) : Upd2 a g v c :=
  ⟨k.1.trans h.1, k.2.1.trans h.2.1, k.2.2.1.trans h.2.2.1, Nat.le_trans h.2.2.2.1 k.2.2.2.1, fun i hi n m => (k.2.2.2.2 i (Nat.lt_of_lt_of_le hi h.2.2.2.1) n m).trans (h.2.2.2.2 i hi n m)⟩
theorem Upd2.ofBelow {a b : World} (h : Below a.heap.size a b) (g v : Nat) : Upd2 a g v b := ⟨h.os, h.tape, h.output, h.size, fun i hi _ _ => h.block i hi⟩
theorem Upd2.ofUpd {a b : World} {g v : Nat} (h : Upd a g b) : Upd2 a g v b := ⟨h.os, h.tape, h.output, h.size, fun i hi n _ => h.block i hi n⟩
/-- What was done to a value's own block is nothing to what was there before. -/
theorem Upd2.upd {W a b : World} {g v : Nat} (h : Upd2 a g v b) (hb : Below W.heap.size W a) (hv : W.heap.size ≤ v) : Upd W g b :=
  ⟨h.1.trans hb.os, h.2.1.trans hb.tape, h.2.2.1.trans hb.output, Nat.le_trans hb.size h.2.2.2.1, fun i hi n => (h.2.2.2.2 i (Nat.lt_of_lt_of_le hi hb.size) n (by omega)).trans (hb.block i hi)⟩
def DoR (W : World) (g bg c a' : Nat) (bs : List Int) (vb : Nat) (T : TypeId) (x : Value) (w' : World) : Prop := Rd w' g bg c a' bs ∧ Blk w' vb T #[x] ∧ Upd2 W g vb w'
theorem DoR.kept {W : World} {g bg c a' : Nat} {bs : List Int} {vb : Nat} {T : TypeId} {x : Value} {w' w2 : World} (h : DoR W g bg c a' bs vb T x w') (k : Below w'.heap.size w' w2) : DoR W g bg c a' bs vb T x w2 :=
  ⟨h.1.kept k, h.2.1.kept k, h.2.2.trans (Upd2.ofBelow k _ _)⟩
set_option maxHeartbeats 4000000 in
theorem doesR_any (H : Rd w g bg c a bs) (F : Nat) (caps : Array Value) (eg : ∀ args w, (callFunc F args).run Try.prog w = .ok (.enter F args) w) (vb a' : Nat) (T : TypeId) (x : Value) (hv : vb < w.heap.size)
    (hcall : ∀ w2, Below w.heap.size w w2 → Calls Try.prog F caps w2 fun e w' => e = .returned (.tuple #[]) ∧ DoR w2 g bg c a' bs vb T x w') :
    Calls Try.prog 84 #[rdP g, .func (.func F) #[] caps] w fun e w' => e = .returned (.int .i64 0) ∧ DoR w g bg c a' bs vb T x w' := by
  have hlt := H.lt
  have HC := Lib.hid hcall
  have HH := Lib.hid H
  clear hcall H
  go_enter_defers Try.func84, Try.ntmps84
  go_upto_region 3 with (fail)
  obtain ⟨B, hB⟩ : ∃ B, B = w.heap.size := ⟨_, rfl⟩
  obtain ⟨W2, hW⟩ : ∃ W2, W2 = (w.alloc (.cells #[rdP g] 62)).alloc (.cells #[.int .i64 0] 54) := ⟨_, rfl⟩
  have hz : W2.heap.size = B + 2 := by rw [hW, hB]; simp
  have cb : Below w.heap.size w W2 := by rw [hW]; exact belowA (belowA (Below.refl _ _) _) _
  have k0 : Blk W2 B 62 #[rdP g] := by rw [hW, hB]; exact (Blk.new _ _ _).alloc _
  have k1 : Blk W2 (B + 1) 54 #[.int .i64 0] := by
    rw [hW, hB]
    have := Blk.new (w.alloc (.cells #[rdP g] 62)) 54 #[.int .i64 0]
    simpa using this
  rw [← hW, ← hB]
  have hg : W2.heap[g]? = some (.cells (rdCells bg bs.length c a) 104 (0, 0)) := (HH.out.kept cb).blk
  have hs := rdCells_size bg bs.length c a
  have h1 := rdCells_one bg bs.length c a
  obtain ⟨cs, hcs⟩ : ∃ cs, rdCells bg bs.length c a = cs := ⟨_, rfl⟩
  rw [hcs] at hg hs h1
  have CB := Lib.hid cb
  have K0 := Lib.hid k0
  have K1 := Lib.hid k1
  have c0 := k0.cell 0
  have HG := Lib.hid hg
  have HZ := Lib.hid hz
  have HB := Lib.hid hB
  have hgb : g < B := by omega
  have hi : (Try.prog.info? 104).map (·.size) = some cs.size := by rw [hs]; kernel_rfl
  have HI := Lib.hid hi
  have hst : ∀ (C : Array Value), C.size = 20 → (storeCells ⟨W2.heap.size, 0, none⟩ cs.toList 0).run Try.prog (W2.alloc (.cells C 104)) = .ok () (W2.alloc (.cells cs 104)) := fun C hC => Go.run_storeCells_new W2 104 C cs hi (by rw [hC, hs]) h1
  have hst0 := hst #[.slice none 0 0, .int .i64 0, .int .i64 0, .int .i64 0, .int .i64 0, .int .i64 0, .int .i64 0, .int .i64 0, .int .i64 0, .int .i64 0, .int .i64 0, .int .i64 0, .int .i64 0, .int .i64 0, .int .i64 0, .int .i64 0, .int .i64 0, .int .i64 0, .int .i64 0, .int .i64 0] rfl
  clear hW cb hB k0 k1 hcs hg hz hi h1 hst
  go_wp2_with (first | (refine wpList_load_row rfl 104 (.tmp 9) rfl g rfl 104 cs (0, 0) _ HG.out Try.underlying104 rfl HI.out ?_))
  obtain ⟨W3, hW3⟩ : ∃ W3, W3 = W2.alloc (.cells cs 104) := ⟨_, rfl⟩
  have b3 : Below W2.heap.size W2 W3 := by rw [hW3]; exact belowA (Below.refl _ _) _
  rw [← hW3]
  have HC3 := Lib.hid (HC.out W3 (CB.out.trans (b3.mono CB.out.size)))
  have c1 : W3.cell? ⟨B + 1, 0, none⟩ = some (.int .i64 0) := keepC b3 (K1.out.cell 0)
  have f1 : W3.frozen? ⟨B + 1, 0, none⟩ = false := (b3.frozen (p := ⟨B + 1, 0, none⟩) K1.out.lt).trans (K1.out.frozen 0)
  have B3 := Lib.hid b3
  have hl1 := World.block_lt_of_cell? _ _ c1
  simp only at hl1
  clear hW3 b3 hst0 HC
  refine HC3.out.mono ?_
  rintro e w4 ⟨rfl, d4⟩
  have hvb : vb < B := by rw [HB.out]; exact hv
  have hk : w4.heap[B + 1]? = W3.heap[B + 1]? := d4.2.2.2.2.2.2 (B + 1) hl1 (by omega) (by omega)
  have e1 : w4.cell? ⟨B + 1, 0, none⟩ = some (.int .i64 0) := (World.cell?_of_block hk).trans c1
  have g1 : w4.frozen? ⟨B + 1, 0, none⟩ = false := (World.frozen?_of_block hk).trans f1
  have D4 := Lib.hid d4
  clear hk d4 c1 f1 HC3 c0
  go_wp2_with fail
  have e2 : (w4.setCell ⟨B + 1, 0, none⟩ (.int .i64 0)).cell? ⟨B + 1, 0, none⟩ = some (.int .i64 0) := World.cell?_setCell_same' _ _ _ (by rw [e1]; rfl)
  have hl4 : w.heap.size ≤ B + 1 := by have := HB.out; omega
  have FIN : Hid (DoR w g bg c a' bs vb T x (w4.setCell ⟨B + 1, 0, none⟩ (.int .i64 0))) := Lib.hid (by
    obtain ⟨d1, d2, d3⟩ := D4.out
    have hB1 : B + 1 ≠ bg := by have := HH.out.room; omega
    have hB2 : B + 1 ≠ g := by omega
    have hB3 : B + 1 ≠ vb := by omega
    refine ⟨d1.newer hB2 hB1 _, d2.other hB3 _, ?_⟩
    have t := (Upd2.ofBelow (CB.out.trans (B3.out.mono CB.out.size)) g vb).trans d3
    exact ⟨t.1, t.2.1, t.2.2.1, by simpa [World.setCell] using t.2.2.2.1, fun i hi n m => (Below.heap_setCell _ _ _ _ (by show i ≠ B + 1; omega)).trans (t.2.2.2.2 i hi n m)⟩)
  refine leaves_cons (f := 90) (args := #[.pointer (some ⟨B + 1, 0, none⟩)]) (by simp) (by simp [go_sem]) ?_
  refine (caught_idle ⟨B + 1, 0, none⟩ _).mono ?_
  rintro e u' w'' ⟨rfl, rfl, rfl⟩
  refine leaves_cons (f := 92) (args := #[.pointer (some ⟨B + 1, 0, none⟩), .pointer (some ⟨W2.heap.size, 0, none⟩), .pointer (some ⟨B, 0, none⟩)]) (by first | decide | simp [settle]) (by simp [go_sem]) ?_
  refine (restore_idle (B + 1) W2.heap.size B _ e2).mono ?_
  rintro e u' w'' ⟨rfl, rfl, rfl⟩
  simp [Leaves, settle, results, Try.results84, go_sem, e2]
  exact FIN.out
end
end Go.Proofs.Ytkeikkkcmackeaa
