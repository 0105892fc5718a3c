/- save: NewWriter, Done: all that was put, with its head. -/
import Derived.Test.YtkeikkkcmackeaaSaveGs
import Derived.Test.YtkeikkkcmackeaaSaveH
import Derived.Test.YtkeikkkcmackeaaSaveLs
import Derived.Test.YtkeikkkcmackeaaTail
namespace Go.Proofs.Ytkeikkkcmackeaa
open Go.RowKit
set_option linter.unusedVariables false
set_option linter.unusedSimpArgs false
set_option maxRecDepth 100000
def NewW (W : World) (e : Ending) (w' : World) : Prop := ∃ g, e = .returned (.pointer (some ⟨g, 0, none⟩)) ∧ W.heap.size ≤ g ∧ Wr w' g (.slice none 0 0) [] ∧ Below W.heap.size W w'
set_option maxHeartbeats 1000000 in
theorem newW_any (w : World) : Calls Try.prog 48 #[] w (NewW w) := by
  go_enter Try.func48, Try.ntmps48
  go_wp2_with fail
  go_ret
  exact ⟨w.heap.size, rfl, Nat.le_refl _, ⟨Blk.new _ _ _, SRow.nil _ _, fun b h => by cases h⟩, belowA (Below.refl _ _) _⟩
/-- A file: the head, then the bytes. -/
def fileOf (bs : List Int) : List Int := [76, 65, 78, 84] ++ [1] ++ le 4 bs.length ++ le 4 (sumOf bs) ++ bs
/-- Bytes that were laid in new memory. -/
def FileAt (B : Nat) (l : List Int) (v : Value) (w : World) : Prop := ∃ g c, v = .slice (some ⟨g, 0, none⟩) l.length c ∧ B ≤ g ∧ l.length ≤ c ∧ ∀ j u, l[j]? = some u → w.cell? ⟨g, j, none⟩ = some (.int .u8 u)
theorem SRow.file {w : World} {B : Nat} {v : Value} {l : List Int} (h : SRow w B v l) (n : l ≠ []) : FileAt B l v w := h.at2 n
theorem FileAt.weak {B B' : Nat} {l : List Int} {v : Value} {w : World} (h : FileAt B l v w) (hb : B' ≤ B) : FileAt B' l v w := by
  obtain ⟨g, c, e, h1, h2⟩ := h
  exact ⟨g, c, e, Nat.le_trans hb h1, h2⟩
theorem FileAt.sees {B : Nat} {l : List Int} {v : Value} {w : World} (h : FileAt B l v w) : Sees w .u8 v l.length (fun j => l.getD j 0) := by
  obtain ⟨g, c, rfl, _, _, hc⟩ := h
  refine ⟨_, _, rfl, Or.inr ⟨g, 0, rfl, fun j hj => ?_⟩⟩
  rw [Nat.zero_add, hc j l[j] (by simp [hj])]
  simp [List.getD, hj]
theorem FileAt.kept {B : Nat} {l : List Int} {v : Value} {w w' : World} (h : FileAt B l v w) (hb : Below w.heap.size w w') : FileAt B l v w' := by
  obtain ⟨g, c, e, h1, h2⟩ := h
  exact ⟨g, c, e, h1, h2.1, fun j u hj => keepC hb (h2.2 j u hj)⟩
def DoneP (W : World) (bs : List Int) (e : Ending) (w' : World) : Prop := ∃ v, e = .returned (.tuple #[v, .int .i64 0]) ∧ FileAt W.heap.size (fileOf bs) v w' ∧ Below W.heap.size W w'
/-- Cells are as they were; marks may not be. -/
def KeepsC (a b : World) : Prop := ∀ (i : Nat) (C : Array Value) (e : TypeId) (m : Nat × Nat), a.heap[i]? = some (.cells C e m) → ∃ m', b.heap[i]? = some (.cells C e m')
theorem KeepsC.refl (a : World) : KeepsC a a := fun _ _ _ m h => ⟨m, h⟩
theorem KeepsC.below {a b : World} (h : Below a.heap.size a b) : KeepsC a b := fun i C e m hi => ⟨m, (h.block i (by
  rcases Nat.lt_or_ge i a.heap.size with k | k
  · exact k
  · rw [Array.getElem?_eq_none k] at hi; cases hi)).trans hi⟩
theorem KeepsC.cell {a b : World} (h : KeepsC a b) {g o : Nat} {v : Value} (hc : a.cell? ⟨g, o, none⟩ = some v) : b.cell? ⟨g, o, none⟩ = some v := by
  cases hg : a.heap[g]? with
  | none => simp [World.cell?, hg] at hc
  | some ob =>
    cases ob with
    | cells C e m =>
      obtain ⟨m', hm⟩ := h g C e m hg
      simp [World.cell?, hg] at hc
      simp [World.cell?, hm, hc]
    | _ => simp [World.cell?, hg] at hc
theorem Pc.keeps {w w' : World} {v : Value} {bs : List Int} (h : Pc w v bs) (k : KeepsC w w') : Pc w' v bs := by
  obtain ⟨g, off, c, rfl, hc⟩ := h
  exact ⟨g, off, c, rfl, fun j u hj => k.cell (hc j u hj)⟩
theorem FileAt.keeps {B : Nat} {l : List Int} {v : Value} {w w' : World} (h : FileAt B l v w) (k : KeepsC w w') : FileAt B l v w' := by
  obtain ⟨g, c, e, h1, h2⟩ := h
  exact ⟨g, c, e, h1, h2.1, fun j u hj => k.cell (h2.2 j u hj)⟩
/-- What '[]byte("..")' marks. -/
theorem run_convert_mark {P : Program} (w : World) (t e : TypeId) (C : Array Value) (m : Nat × Nat) (g n c : Nat) (hb : w.heap[g]? = some (.cells C e m)) (ht : P.underlying t = some (.slice e)) (he : P.underlying e = some (.int .u8)) :
    ∃ w', (convert t t (.slice (some ⟨g, 0, none⟩) n c)).run P w = .ok (.slice (some ⟨g, 0, none⟩) n c) w' ∧ KeepsC w w' ∧ ∀ (B : Nat) (W : World), Below B W w → B ≤ g → Below B W w' := by
  have hsh : w.shape? g = some (e, C.size) := by unfold World.shape?; rw [hb]
  refine ⟨w.freeze ⟨g, C.size, none⟩ 1, ?_, ?_, ?_⟩
  · simp [convert, run_underlying ht, run_underlying he, markStringish, hsh]
  · intro i C' e' m' hi
    unfold World.freeze
    rw [if_neg (by decide)]
    simp only [Array.getElem?_modify]
    by_cases h : g = i
    · subst h
      rw [hb] at hi
      injection hi with hi
      injection hi with h1 h2 h3
      subst h1 h2 h3
      simp [hb]
    · simp [h, hi]
  · intro B W hB hg
    unfold World.freeze
    rw [if_neg (by decide)]
    refine ⟨hB.os, hB.tape, hB.output, by simpa using hB.size, fun i hi => ?_⟩
    simp only [Array.getElem?_modify]
    rw [if_neg (by omega)]
    exact hB.block i hi
def hd4 : Array Value := #[.int .u8 76, .int .u8 65, .int .u8 78, .int .u8 84]
/-- A row of bytes of a statement's own. -/
theorem pc_new {w : World} (l : List Int) (t : TypeId) (n : Nat) (hn : l.length = n) (c : Nat) : Pc (w.alloc (.cells (l.map (Value.int .u8)).toArray t)) (.slice (some ⟨w.heap.size, 0, none⟩) n c) l := by
  subst hn
  refine ⟨w.heap.size, 0, c, rfl, fun j u hj => ?_⟩
  rw [Nat.zero_add, (Blk.new w t _).cell j]
  simp [hj]
def FivePcs (bs : List Int) (v : Value) (w : World) : Prop := ∃ b p0 p1 p2 p3 p4, v = .slice (some ⟨b, 0, none⟩) 5 5 ∧ (w.cell? ⟨b, 0, none⟩ = some p0 ∧ w.cell? ⟨b, 1, none⟩ = some p1 ∧ w.cell? ⟨b, 2, none⟩ = some p2 ∧ w.cell? ⟨b, 3, none⟩ = some p3 ∧ w.cell? ⟨b, 4, none⟩ = some p4) ∧ Pc w p0 [76, 65, 78, 84] ∧ Pc w p1 [1] ∧ Pc w p2 (le 4 bs.length) ∧ Pc w p3 (le 4 (sumOf bs)) ∧ Pc w p4 bs
theorem FivePcs.keeps {bs : List Int} {v : Value} {w w' : World} (h : FivePcs bs v w) (k : KeepsC w w') : FivePcs bs v w' := by
  obtain ⟨b, p0, p1, p2, p3, p4, e, ⟨c0, c1, c2, c3, c4⟩, h1, h2, h3, h4, h5⟩ := h
  exact ⟨b, p0, p1, p2, p3, p4, e, ⟨k.cell c0, k.cell c1, k.cell c2, k.cell c3, k.cell c4⟩, h1.keeps k, h2.keeps k, h3.keeps k, h4.keeps k, h5.keeps k⟩
def dnS (g B : Nat) (bv : Value) (bs : List Int) : Nat → Value → List Value → World → Prop
  | 0, v, _, w => ∃ b m, v = .slice (some ⟨b, 0, none⟩) 4 4 ∧ B ≤ b ∧ w.heap[b]? = some (.cells hd4 5 m)
  | 1, v, _, w => Pc w v [76, 65, 78, 84]
  | 2, v, _, w => Pc w v [1]
  | 3, v, _, _ => v = .pointer (some ⟨g, 0, none⟩)
  | 4, v, _, _ => v = .pointer (some ⟨g, 0, none⟩)
  | 5, v, _, _ => v = .pointer (some ⟨g, 0, none⟩)
  | 6, v, _, _ => v = bv
  | 7, v, _, _ => v = .int .i64 (bs.length : Nat)
  | 8, v, _, _ => v = .int .u32 (bs.length : Nat)
  | 9, v, _, w => Pc w v (le 4 bs.length)
  | 10, v, _, _ => v = .pointer (some ⟨g, 0, none⟩)
  | 11, v, _, _ => v = .pointer (some ⟨g, 0, none⟩)
  | 12, v, _, _ => v = .pointer (some ⟨g, 0, none⟩)
  | 13, v, _, _ => v = bv
  | 14, v, _, _ => v = .int .u32 (sumOf bs)
  | 15, v, _, w => Pc w v (le 4 (sumOf bs))
  | 16, v, _, _ => v = .pointer (some ⟨g, 0, none⟩)
  | 17, v, _, _ => v = .pointer (some ⟨g, 0, none⟩)
  | 18, v, _, _ => v = .pointer (some ⟨g, 0, none⟩)
  | 19, v, _, _ => v = bv
  | 20, v, _, w => FivePcs bs v w
  | 21, v, _, w => FileAt B (fileOf bs) v w
  | 22, v, _, w => FileAt B (fileOf bs) v w
  | 23, v, _, _ => v = .int .i64 0
  | _, _, _, _ => True
theorem dnS_mono {g B : Nat} {bv : Value} {bs : List Int} (i : Nat) (v : Value) (q : List Value) (w w' : World) (h : dnS g B bv bs i v q w) (k : KeepsC w w') : dnS g B bv bs i v q w' := by
  match i, h with
  | 0, ⟨b, m, h1, h2, h3⟩ =>
    obtain ⟨m', hm⟩ := k b _ _ _ h3
    exact ⟨b, m', h1, h2, hm⟩
  | 1, h => exact Pc.keeps h k
  | 2, h => exact Pc.keeps h k
  | 3, h => exact h
  | 4, h => exact h
  | 5, h => exact h
  | 6, h => exact h
  | 7, h => exact h
  | 8, h => exact h
  | 9, h => exact Pc.keeps h k
  | 10, h => exact h
  | 11, h => exact h
  | 12, h => exact h
  | 13, h => exact h
  | 14, h => exact h
  | 15, h => exact Pc.keeps h k
  | 16, h => exact h
  | 17, h => exact h
  | 18, h => exact h
  | 19, h => exact h
  | 20, h => exact FivePcs.keeps h k
  | 21, h => exact FileAt.keeps h k
  | 22, h => exact FileAt.keeps h k
  | 23, h => exact h
  | i + 24, _ => exact True.intro
theorem file_len (bs : List Int) : (fileOf bs).length = 13 + bs.length := by unfold fileOf; simp [le_len]; omega
theorem concat_five {w : World} {bs : List Int} {v : Value} (h : FivePcs bs v w) (hl : bs.length ≤ 1000000) : Calls Try.prog 75 #[v] w (fun e w' => ∃ bv, e = .returned bv ∧ SRow w' w.heap.size bv (fileOf bs) ∧ Below w.heap.size w w') := by
  obtain ⟨b, p0, p1, p2, p3, p4, rfl, h0, h1, h2, h3, h4, h5⟩ := h
  have hf : [[76, 65, 78, 84], [1], le 4 bs.length, le 4 (sumOf bs), bs].flatten = fileOf bs := by simp [fileOf]
  have := concat_any b 5 [p0, p1, p2, p3, p4] [[76, 65, 78, 84], [1], le 4 bs.length, le 4 (sumOf bs), bs] w rfl (by simp) (fun k q hk => by
      match k, hk with
      | 0, hk => exact h0.1.trans hk
      | 1, hk => exact h0.2.1.trans hk
      | 2, hk => exact h0.2.2.1.trans hk
      | 3, hk => exact h0.2.2.2.1.trans hk
      | 4, hk => exact h0.2.2.2.2.trans hk
      | k + 5, hk => simp at hk) (fun k q x hk hx => by
      match k, hk, hx with
      | 0, hk, hx => simp at hk hx; subst hk hx; exact h1
      | 1, hk, hx => simp at hk hx; subst hk hx; exact h2
      | 2, hk, hx => simp at hk hx; subst hk hx; exact h3
      | 3, hk, hx => simp at hk hx; subst hk hx; exact h4
      | 4, hk, hx => simp at hk hx; subst hk hx; exact h5
      | k + 5, hk, hx => simp at hk) (by rw [hf, file_len]; omega) (by rw [hf, file_len]; omega)
  rw [hf] at this
  exact this
set_option maxHeartbeats 16000000 in
theorem done_any {w : World} {g : Nat} {bv : Value} {bs : List Int} (H : Wr w g bv bs) (ne : bs ≠ []) (hb : ∀ b ∈ bs, 0 ≤ b ∧ b ≤ 255) (hl : bs.length ≤ 1000000) :
    Calls Try.prog 50 #[.pointer (some ⟨g, 0, none⟩)] w (DoneP w bs) := by
  obtain ⟨c0, _, c17, c18⟩ := H.facts
  obtain ⟨gb, cb, rfl, _, _⟩ := H.row.at ne
  have HR := Lib.hid H.row
  have BY := Lib.hid hb
  have NE := Lib.hid ne
  have SR := Lib.hid (sumOf_rng bs)
  have HLN := Lib.hid hl
  obtain ⟨n, hn⟩ : ∃ n, bs.length = n := ⟨_, rfl⟩
  have HN := Lib.hid hn
  rw [hn] at hl c0 HR
  have C0 := Lib.hid c0
  have WU : Hid (IntKind.u32.wrap (n : Int) = n) := Lib.hid (by simp [IntKind.wrap, IntKind.bits, IntKind.signed]; omega)
  clear H hb ne hn
  go_enter Try.func50, Try.ntmps50
  go_upto_region 7 with (fail)
  clear c17 c18
  refine wp_region_rel (C := fun w' => Below w.heap.size w w') (S := dnS g w.heap.size (.slice (some ⟨gb, 0, none⟩) n cb) bs) (Ev := KeepsC) (by kernel_rfl) (by kernel_rfl) dnS_mono ?_ ?_ ?_
  · exact belowD (Below.refl _ _)
  · clear c0
    simp only [stepsOf]
    refine ⟨fun us w' hw hd => stepOf_plain rfl ?_, fun us w' hw hd => stepOf_plain rfl ?_, fun us w' hw hd => stepOf_plain rfl ?_, fun us w' hw hd => stepOf_plain rfl ?_, fun us w' hw hd => stepOf_plain rfl ?_, fun us w' hw hd => stepOf_plain rfl ?_, fun us w' hw hd => stepOf_plain rfl ?_, fun us w' hw hd => stepOf_plain rfl ?_, fun us w' hw hd => stepOf_plain rfl ?_, fun us w' hw hd => stepOf_plain rfl ?_, fun us w' hw hd => stepOf_plain rfl ?_, fun us w' hw hd => stepOf_plain rfl ?_, fun us w' hw hd => stepOf_plain rfl ?_, fun us w' hw hd => stepOf_plain rfl ?_, fun us w' hw hd => stepOf_plain rfl ?_, fun us w' hw hd => stepOf_plain rfl ?_, fun us w' hw hd => stepOf_plain rfl ?_, fun us w' hw hd => stepOf_plain rfl ?_, fun us w' hw hd => stepOf_plain rfl ?_, fun us w' hw hd => stepOf_plain rfl ?_, fun us w' hw hd => stepOf_plain rfl ?_, fun us w' hw hd => stepOf_plain rfl ?_, fun us w' hw hd => stepOf_plain rfl ?_, fun us w' hw hd => stepOf_plain rfl ?_, trivial⟩
    all_goals simp only [fill, List.filterMap_cons, List.filterMap_nil]
    · go_simp
      exact ⟨_, rfl, belowA hw _, ⟨_, _, rfl, hw.size, Blk.new _ _ _⟩, KeepsC.below (belowA (Below.refl _ _) _)⟩
    · obtain ⟨b1, m1, h1, h2, h3⟩ : ∃ b m, us 24 = .slice (some ⟨b, 0, none⟩) 4 4 ∧ w.heap.size ≤ b ∧ w'.heap[b]? = some (.cells hd4 5 m) := hd.1 rfl
      obtain ⟨w2, k1, k2, k3⟩ := run_convert_mark (P := Try.prog) w' 40 5 hd4 m1 b1 4 4 h3 Try.underlying40 Try.underlying5
      have K2 := Lib.hid k2
      have K3 := Lib.hid (k3 _ _ hw h2)
      obtain ⟨m2, h4⟩ := k2 b1 _ _ _ h3
      have H4 : Hid (Pc w2 (.slice (some ⟨b1, 0, none⟩) 4 4) [76, 65, 78, 84]) := Lib.hid ⟨b1, 0, 4, rfl, fun j u hj => by
        rw [Nat.zero_add]
        have : w2.cell? ⟨b1, j, none⟩ = hd4[j]? := by simp [World.cell?, h4]
        rw [this]
        match j, hj with
        | 0, hj => simp at hj; subst hj; rfl
        | 1, hj => simp at hj; subst hj; rfl
        | 2, hj => simp at hj; subst hj; rfl
        | 3, hj => simp at hj; subst hj; rfl
        | j + 4, hj => simp at hj⟩
      clear k2 k3 h3 h4
      go_simp
      exact ⟨_, rfl, K3.out, H4.out, K2.out⟩
    · go_simp
      exact ⟨_, rfl, belowA hw _, pc_new [1] _ 1 rfl _, KeepsC.below (belowA (Below.refl _ _) _)⟩
    · go_simp
      exact ⟨_, rfl, hw, rfl, KeepsC.refl _⟩
    · have h : us 27 = .pointer (some ⟨g, 0, none⟩) := hd.1 rfl
      have c := keepC hw C0.out
      go_simp
      exact ⟨_, rfl, hw, rfl, KeepsC.refl _⟩
    · have h : us 28 = .pointer (some ⟨g, 0, none⟩) := hd.1 rfl
      have c := keepC hw C0.out
      go_simp
      exact ⟨_, rfl, hw, rfl, KeepsC.refl _⟩
    · have h : us 29 = .pointer (some ⟨g, 0, none⟩) := hd.1 rfl
      have c := keepC hw C0.out
      go_simp
      exact ⟨_, rfl, hw, rfl, KeepsC.refl _⟩
    · have h : us 30 = .slice (some ⟨gb, 0, none⟩) n cb := hd.1 rfl
      go_simp
      exact ⟨_, rfl, hw, by show _ = Value.int .i64 (bs.length : Nat); rw [HN.out]; rfl, KeepsC.refl _⟩
    · have h : us 31 = .int .i64 (n : Nat) := (show us 31 = .int .i64 (bs.length : Nat) from hd.1 rfl).trans (by rw [HN.out])
      go_simp
      exact ⟨_, rfl, hw, by show Value.int .u32 (IntKind.u32.wrap (n : Nat)) = Value.int .u32 (bs.length : Nat); rw [HN.out, WU.out], KeepsC.refl _⟩
    · have h : us 32 = .int .u32 (n : Nat) := (show us 32 = .int .u32 (bs.length : Nat) from hd.1 rfl).trans (by rw [HN.out])
      go_simp
      refine (laid32_any n 4 _ (by omega) (by omega) (by omega)).mono ?_
      rintro e w2 ⟨pv, rfl, hr, hb⟩
      exact ⟨_, rfl, hw.trans (hb.mono hw.size), by show Pc w2 pv (le 4 bs.length); rw [HN.out]; exact hr.pc (by simp [le]), KeepsC.below hb⟩
    · go_simp
      exact ⟨_, rfl, hw, rfl, KeepsC.refl _⟩
    · have h : us 34 = .pointer (some ⟨g, 0, none⟩) := hd.1 rfl
      have c := keepC hw C0.out
      go_simp
      exact ⟨_, rfl, hw, rfl, KeepsC.refl _⟩
    · have h : us 35 = .pointer (some ⟨g, 0, none⟩) := hd.1 rfl
      have c := keepC hw C0.out
      go_simp
      exact ⟨_, rfl, hw, rfl, KeepsC.refl _⟩
    · have h : us 36 = .pointer (some ⟨g, 0, none⟩) := hd.1 rfl
      have c := keepC hw C0.out
      go_simp
      exact ⟨_, rfl, hw, rfl, KeepsC.refl _⟩
    · have h : us 37 = .slice (some ⟨gb, 0, none⟩) n cb := hd.1 rfl
      go_simp
      refine (sum_any (.slice (some ⟨gb, 0, none⟩) n cb) bs w' (by rw [← HN.out] at HR ⊢; exact (HR.out.below hw).sees) BY.out (by rw [HN.out]; omega)).mono ?_
      rintro e w2 ⟨rfl, rfl⟩
      exact ⟨_, rfl, hw, rfl, KeepsC.refl _⟩
    · have h : us 38 = .int .u32 (sumOf bs) := hd.1 rfl
      go_simp
      refine (laid32_any (sumOf bs) 4 _ SR.out.1 SR.out.2 (by omega)).mono ?_
      rintro e w2 ⟨pv, rfl, hr, hb⟩
      exact ⟨_, rfl, hw.trans (hb.mono hw.size), hr.pc (by simp [le]), KeepsC.below hb⟩
    · go_simp
      exact ⟨_, rfl, hw, rfl, KeepsC.refl _⟩
    · have h : us 40 = .pointer (some ⟨g, 0, none⟩) := hd.1 rfl
      have c := keepC hw C0.out
      go_simp
      exact ⟨_, rfl, hw, rfl, KeepsC.refl _⟩
    · have h : us 41 = .pointer (some ⟨g, 0, none⟩) := hd.1 rfl
      have c := keepC hw C0.out
      go_simp
      exact ⟨_, rfl, hw, rfl, KeepsC.refl _⟩
    · have h : us 42 = .pointer (some ⟨g, 0, none⟩) := hd.1 rfl
      have c := keepC hw C0.out
      go_simp
      exact ⟨_, rfl, hw, rfl, KeepsC.refl _⟩
    · obtain ⟨g0, o0, d0, e0, _⟩ : Pc w' (us 25) [76, 65, 78, 84] := hd.1 rfl
      obtain ⟨g1, o1, d1, e1, _⟩ : Pc w' (us 26) [1] := hd.2.1 rfl
      obtain ⟨g2, o2, d2, e2, _⟩ : Pc w' (us 33) (le 4 bs.length) := hd.2.2.1 rfl
      obtain ⟨g3, o3, d3, e3, _⟩ : Pc w' (us 39) (le 4 (sumOf bs)) := hd.2.2.2.1 rfl
      have h4 : us 43 = .slice (some ⟨gb, 0, none⟩) n cb := hd.2.2.2.2.1 rfl
      have h0 : Pc w' (us 25) [76, 65, 78, 84] := hd.1 rfl
      have h1 : Pc w' (us 26) [1] := hd.2.1 rfl
      have h2 : Pc w' (us 33) (le 4 bs.length) := hd.2.2.1 rfl
      have h3 : Pc w' (us 39) (le 4 (sumOf bs)) := hd.2.2.2.1 rfl
      rw [e0] at h0
      rw [e1] at h1
      rw [e2] at h2
      rw [e3] at h3
      rw [le_len] at h2 h3 e2 e3
      have H0 := Lib.hid h0
      have H1 := Lib.hid h1
      have H2 := Lib.hid h2
      have H3 := Lib.hid h3
      have H5 : Hid (Pc w' (.slice (some ⟨gb, 0, none⟩) n cb) bs) := Lib.hid (by rw [← HN.out] at HR ⊢; exact (HR.out.below hw).pc NE.out)
      clear h0 h1 h2 h3
      go_simp
      have bb := belowA (Below.refl w'.heap.size w') (.cells #[.slice (some ⟨g0, o0, none⟩) 4 d0, .slice (some ⟨g1, o1, none⟩) 1 d1, .slice (some ⟨g2, o2, none⟩) 4 d2, .slice (some ⟨g3, o3, none⟩) 4 d3, .slice (some ⟨gb, 0, none⟩) n cb] 40)
      exact ⟨_, rfl, belowA hw _, ⟨_, _, _, _, _, _, rfl, ⟨(Blk.new _ _ _).cell 0, (Blk.new _ _ _).cell 1, (Blk.new _ _ _).cell 2, (Blk.new _ _ _).cell 3, (Blk.new _ _ _).cell 4⟩, H0.out.kept bb, H1.out.kept bb, H2.out.kept bb, H3.out.kept bb, H5.out.kept bb⟩, KeepsC.below (belowA (Below.refl _ _) _)⟩
    · obtain ⟨b, p0, p1, p2, p3, p4, e0, _⟩ : FivePcs bs (us 44) w' := hd.1 rfl
      have h : FivePcs bs (us 44) w' := hd.1 rfl
      rw [e0] at h
      have CC := Lib.hid (concat_five h HLN.out)
      clear h
      go_simp
      refine CC.out.mono ?_
      rintro e w2 ⟨rv, rfl, hr, hb⟩
      exact ⟨_, rfl, hw.trans (hb.mono hw.size), (hr.weak hw.size).file (by intro e; have := file_len bs; rw [e, List.length_nil] at this; omega), KeepsC.below hb⟩
    · have h : FileAt w.heap.size (fileOf bs) (us 45) w' := hd.1 rfl
      obtain ⟨x, hx⟩ : ∃ x, us 45 = x := ⟨_, rfl⟩
      rw [hx] at h
      have HR2 := Lib.hid h
      clear h
      go_simp
      exact ⟨_, rfl, hw, HR2.out, KeepsC.refl _⟩
    · go_simp
      exact ⟨_, rfl, hw, rfl, KeepsC.refl _⟩
  · intro us w' hw ha
    simp only [fill, List.filterMap_cons, List.filterMap_nil]
    have h2 : FileAt w.heap.size (fileOf bs) (us 2) w' := ha.2.2.2.2.2.2.2.2.2.2.2.2.2.2.2.2.2.2.2.2.2.2.1
    have h3 : us 3 = .int .i64 0 := ha.2.2.2.2.2.2.2.2.2.2.2.2.2.2.2.2.2.2.2.2.2.2.2.1
    obtain ⟨x, hx⟩ : ∃ x, us 2 = x := ⟨_, rfl⟩
    rw [hx] at h2
    have H2 := Lib.hid h2
    clear h2 ha
    go_wp2_with fail
    go_ret2
    exact ⟨_, rfl, H2.out, hw⟩
end Go.Proofs.Ytkeikkkcmackeaa
