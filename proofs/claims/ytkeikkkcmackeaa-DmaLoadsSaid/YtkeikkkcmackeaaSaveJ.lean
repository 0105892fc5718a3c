/- save: a reader in memory; slices.Clone, NewReader. -/
import Derived.Test.YtkeikkkcmackeaaSaveI
import Derived.Test.YtkeikkkcmackeaaSaveN32
import Derived.Laws.BytesArg
import Derived.Lib.SlBytesRow
import Derived.Lib.SliceRun
namespace Go.Proofs.Ytkeikkkcmackeaa
open Go.RowKit
set_option linter.unusedVariables false
set_option linter.unusedSimpArgs false
set_option maxRecDepth 100000
/-- A reader's cells. -/
def rdCells (bg n c at_ : Nat) : Array Value := #[.slice (some ⟨bg, 0, none⟩) n c, .int .i64 at_, .int .i64 n, .int .i64 0, .int .i64 0, .int .i64 0, .int .i64 0, .int .i64 0, .int .i64 0, .int .i64 0, .int .i64 0, .int .i64 0, .int .i64 0, .int .i64 0, .int .i64 0, .int .i64 0, .int .i64 0, .int .i64 0, .int .i64 0, .int .i64 0]
/-- A reader at block g, of bytes bs that lie in block bg; it has come to at_. -/
structure Rd (w : World) (g bg c at_ : Nat) (bs : List Int) : Prop where
  blk : Blk w g 104 (rdCells bg bs.length c at_)
  bytes : ∀ j u, bs[j]? = some u → w.cell? ⟨bg, j, none⟩ = some (.int .u8 u)
  apart : bg ≠ g
  cap : bs.length ≤ c
  few : bs.length ≤ 1048576
  here : at_ ≤ bs.length
  byts : Byts bs
  room : bg < w.heap.size
section
variable {w w' : World} {g bg c at_ : Nat} {bs : List Int}
theorem Rd.kept (h : Rd w g bg c at_ bs) (hb : Below w.heap.size w w') : Rd w' g bg c at_ bs := ⟨h.blk.kept hb, fun j u hj => keepC hb (h.bytes j u hj), h.apart, h.cap, h.few, h.here, h.byts, Nat.lt_of_lt_of_le h.room hb.size⟩
theorem Rd.upd (h : Rd w g bg c at_ bs) {p : Nat} (hu : Upd w p w') (n : p ≠ g) (n2 : p ≠ bg) : Rd w' g bg c at_ bs :=
  ⟨hu.blk h.blk (fun e => n e.symm), fun j u hj => keepU hu (h.bytes j u hj) (fun e => n2 e.symm), h.apart, h.cap, h.few, h.here, h.byts, Nat.lt_of_lt_of_le h.room hu.size⟩
theorem Rd.lt (h : Rd w g bg c at_ bs) : g < w.heap.size := h.blk.lt
theorem Rd.set (h : Rd w g bg c at_ bs) (k : Nat) (hk : k ≤ bs.length) : Rd (w.setCell ⟨g, 1, none⟩ (.int .i64 k)) g bg c k bs :=
  ⟨h.blk.set_ 1 _, fun j u hj => keepSet (h.bytes j u hj) h.apart, h.apart, h.cap, h.few, hk, h.byts, by simpa [World.setCell] using h.room⟩
theorem Rd.newer (h : Rd w g bg c at_ bs) {p : Addr} (n : p.block ≠ g) (n2 : p.block ≠ bg) (v : Value) : Rd (w.setCell p v) g bg c at_ bs :=
  ⟨h.blk.other n _, fun j u hj => keepSet (h.bytes j u hj) (fun e => n2 e.symm), h.apart, h.cap, h.few, h.here, h.byts, by simpa [World.setCell] using h.room⟩
end
set_option maxHeartbeats 2000000 in
/-- slices.Clone of bytes. -/
theorem clone_any (w : World) (g off c : Nat) (bs : List Int) (h0 : bs ≠ []) (hl : bs.length ≤ 1048576) (hc : ∀ j u, bs[j]? = some u → w.cell? ⟨g, off + j, none⟩ = some (.int .u8 u)) :
    Calls Try.prog 60 #[.slice (some ⟨g, off, none⟩) bs.length c] w (fun e w' => ∃ bv, e = .returned bv ∧ SRow w' w.heap.size bv bs ∧ Below w.heap.size w w') := by
  obtain ⟨i0, hi, hz0, hz1, hz2⟩ := info_parts saU8
  have hb1 := belowA (Below.refl w.heap.size w) (.cells #[] 5)
  have NW : Hid (∀ j u, (bs.map (Value.int .u8))[j]? = some u → (w.alloc (.cells #[] 5)).cell? ((⟨g, off, none⟩ : Addr).add j) = some u) := Lib.hid (pcNews (fun j u hj => keepC hb1 (hc j u hj)))
  have ONE := Lib.hid (oneNews bs)
  have HB := Lib.hid hb1
  clear hc hb1
  have own : (w.alloc (.cells #[] 5)).ownsRow w.heap.size 5 1 (.slice (some ⟨w.heap.size, 0, none⟩) 0 0) 0 [] := ⟨rfl, Or.inr ⟨w.heap.size, 0, #[], rfl, Nat.le_refl _, heap_alloc_new w _, by simp, by unfold maxLen; omega, by simp, by simp⟩⟩
  obtain ⟨n, hn⟩ : ∃ n, bs.length = n := ⟨_, rfl⟩
  have HL : Hid ((bs.map (Value.int .u8)).length = n * 1) := Lib.hid (by rw [List.length_map, hn, Nat.mul_one])
  have HN := Lib.hid hn
  rw [hn] at hl ⊢
  clear hn h0
  have hne : ∀ w : World, (binOp .eql 40 (.slice (some ⟨g, off, none⟩) n c) (.slice none 0 0)).run Try.prog w = .ok (.bool false) w := fun w => Lib.run_eql_slice_nil w _ _ _ _ _ _ _ Try.underlying40
  go_enter Try.func60, Try.ntmps60
  go_wp2_with (first
    | (at_builtin; refine wpList_append_own_at _ rfl _ _ 40 rfl w.heap.size 5 i0 (.int .u8 0) 1 1 Try.underlying40 hi hz0 hz1 hz2 rfl (by decide) _ 0 _ rfl own ⟨g, off, none⟩ n c (bs.map (Value.int .u8)) rfl HL.out NW.out ONE.out (by unfold maxLen; omega) (by omega) (by simp) ?_; intro v1 w1 own1 hg1 hnil1 hat1))
  have R3 : Hid (SRow w1 w.heap.size v1 bs) := Lib.hid (by rw [Nat.zero_add, ← HN.out] at own1; exact own1)
  have B3 := Lib.hid (HB.out.grown hg1 (by simp) (fun k e => own_base' own e))
  clear own own1 hg1 hnil1 hat1
  go_ret
  exact ⟨_, rfl, R3.out, B3.out⟩
def NewR (W : World) (bs : List Int) (e : Ending) (w' : World) : Prop := ∃ g bg c, e = .returned (.tuple #[.pointer (some ⟨g, 0, none⟩), .int .i64 0]) ∧ W.heap.size ≤ g ∧ W.heap.size ≤ bg ∧ Rd w' g bg c 0 bs ∧ Below W.heap.size W w'
theorem file_at {bs : List Int} : (fileOf bs)[0]? = some 76 ∧ (fileOf bs)[1]? = some 65 ∧ (fileOf bs)[2]? = some 78 ∧ (fileOf bs)[3]? = some 84 ∧ (fileOf bs)[4]? = some 1 :=
  ⟨rfl, rfl, rfl, rfl, rfl⟩
theorem file_len4 {bs : List Int} (j : Nat) (u : Int) (h : (le 4 bs.length)[j]? = some u) : (fileOf bs)[5 + j]? = some u := by
  have hj : j < 4 := by have := (List.getElem?_eq_some_iff.1 h).1; rwa [le_len] at this
  unfold fileOf
  rw [List.append_assoc, List.append_assoc, List.getElem?_append_right (by simp), List.getElem?_append_left (by simp [le_len]; omega)]
  simpa using h
theorem file_sum4 {bs : List Int} (j : Nat) (u : Int) (h : (le 4 (sumOf bs))[j]? = some u) : (fileOf bs)[9 + j]? = some u := by
  have hj : j < 4 := by have := (List.getElem?_eq_some_iff.1 h).1; rwa [le_len] at this
  unfold fileOf
  rw [List.append_assoc, List.getElem?_append_right (by simp [le_len]), List.getElem?_append_left (by simp [le_len]; omega)]
  rw [← h]; congr 1; simp [le_len]
theorem file_body {bs : List Int} (j : Nat) (u : Int) (h : bs[j]? = some u) : (fileOf bs)[13 + j]? = some u := by
  unfold fileOf
  rw [List.getElem?_append_right (by simp [le_len])]
  rw [← h]; congr 1; simp [le_len]
set_option maxHeartbeats 8000000 in
theorem newR_any (w : World) (v : Value) (bs : List Int) (B : Nat) (h : FileAt B (fileOf bs) v w) (ne : bs ≠ []) (hb : Byts bs) (hl : bs.length ≤ 1000000) :
    Calls Try.prog 31 #[v] w (NewR w bs) := by
  obtain ⟨g, c, rfl, _, hcap, hc⟩ := h
  rw [file_len] at hcap ⊢
  have C0 := hc 0 76 file_at.1
  have C4 := hc 4 1 file_at.2.2.2.2
  have hcv : (convert 40 9 (.slice (some ⟨g, 0, none⟩) 4 c)).run Try.prog w = .ok (.string ⟨#[76, 65, 78, 84]⟩) w :=
    run_convert_bytes_arg (P := Try.prog) w 40 5 Try.underlying40 Try.underlying5 g 0 4 c [76, 65, 78, 84] rfl (fun i hi => by
      rw [Nat.zero_add]
      match i, hi with
      | 0, _ => exact hc 0 76 file_at.1
      | 1, _ => exact hc 1 65 file_at.2.1
      | 2, _ => exact hc 2 78 file_at.2.2.1
      | 3, _ => exact hc 3 84 file_at.2.2.2.1) 9 Try.underlying9
  have CL := Lib.hid (clone_any w g 13 (c - 13) bs ne (by omega) (fun j u hj => hc (13 + j) u (file_body j u hj)))
  have N1 : Hid (∀ w', Below w.heap.size w w' → Calls Try.prog 61 #[.slice (some ⟨g, 5, none⟩) 4 (c - 5)] w' (fun e w'' => e = .returned (.int .u32 (bs.length : Nat)) ∧ Below w'.heap.size w' w'')) := Lib.hid (fun w' hb' => by
    have := number32_any w' g 5 (c - 5) (le 4 bs.length) (le_byte _ _) (le_len _ _) (fun j u hj => keepC hb' (hc _ u (file_len4 j u hj)))
    rwa [num_le 4 _ (by omega) (by rw [show (256 : Int) ^ 4 = 4294967296 by decide]; omega)] at this)
  have N2 : Hid (∀ w', Below w.heap.size w w' → Calls Try.prog 61 #[.slice (some ⟨g, 9, none⟩) 4 (c - 9)] w' (fun e w'' => e = .returned (.int .u32 (sumOf bs)) ∧ Below w'.heap.size w' w'')) := Lib.hid (fun w' hb' => by
    have := number32_any w' g 9 (c - 9) (le 4 (sumOf bs)) (le_byte _ _) (le_len _ _) (fun j u hj => keepC hb' (hc _ u (file_sum4 j u hj)))
    rwa [num_le 4 _ (sumOf_rng bs).1 (by rw [show (256 : Int) ^ 4 = 4294967296 by decide]; have := (sumOf_rng bs).2; omega)] at this)
  have NE := Lib.hid ne
  have HB := Lib.hid hb
  have hl0 : 0 < bs.length := List.length_pos_iff.mpr ne
  have LN : Hid (bs.length ≤ 1000000) := Lib.hid hl
  obtain ⟨n, hn⟩ : ∃ n, bs.length = n := ⟨_, rfl⟩
  have HN := Lib.hid hn
  rw [hn] at hcap hl hl0 CL N1 ⊢
  have WU : IntKind.u32.wrap (n : Int) = n := by simp [IntKind.wrap, IntKind.bits, IntKind.signed]; omega
  clear hc ne hb hn
  go_enter Try.func31, Try.ntmps31
  go_wp2_with fail
  refine CL.out.mono ?_
  rintro e w1 ⟨bv, rfl, r1, b1⟩
  obtain ⟨ga, ca, rfl, hga, hcap2, hca⟩ := r1.at2 NE.out
  have R1 := Lib.hid r1
  have B1 := Lib.hid b1
  have HCA := Lib.hid hca
  have HCP := Lib.hid hcap2
  have hgl : ga < w1.heap.size := r1.lt rfl
  rw [HN.out]
  clear r1 b1 hca CL hcap2
  go_wp2_with fail
  refine (N1.out _ B1.out).mono ?_
  rintro e w2 ⟨rfl, hb2⟩
  have B2 := Lib.hid (B1.out.trans (hb2.mono B1.out.size))
  have S2 : Hid (Sees w2 .u8 (.slice (some ⟨ga, 0, none⟩) n ca) bs.length (fun j => bs.getD j 0)) := Lib.hid (by rw [← HN.out]; exact (R1.out.below hb2).sees)
  have H2 := Lib.hid hb2
  clear hb2 N1
  go_wp2_with fail
  refine (N2.out _ B2.out).mono ?_
  rintro e w3 ⟨rfl, hb3⟩
  have B3 := Lib.hid (B2.out.trans (hb3.mono B2.out.size))
  have H3 := Lib.hid (H2.out.trans (hb3.mono H2.out.size))
  have SU := Lib.hid (sum_any _ bs w3 (S2.out.kept hb3) HB.out (by have := LN.out; omega))
  clear hb3 N2
  go_wp2_with fail
  refine SU.out.mono ?_
  rintro e w4 ⟨rfl, rfl⟩
  clear SU
  go_wp2_with fail
  go_ret2
  refine ⟨w3.heap.size, ga, ca, rfl, B3.out.size, hga, ⟨?_, ?_, ?_, ?_, ?_, ?_, ?_, ?_⟩, belowA B3.out _⟩
  · rw [HN.out]
    exact Blk.new _ _ _
  · exact fun j u hj => keepC (belowA (Below.refl _ _) _) (keepC H3.out (HCA.out j u hj))
  · have := H3.out.size; omega
  · exact HCP.out
  · have := LN.out; omega
  · exact Nat.zero_le _
  · exact HB.out
  · have := H3.out.size; simp; omega
end Go.Proofs.Ytkeikkkcmackeaa
