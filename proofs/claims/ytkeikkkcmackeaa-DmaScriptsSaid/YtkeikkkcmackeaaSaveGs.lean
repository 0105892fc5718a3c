/- save: slices.Grow of no bytes. save: slices.Concat of pieces. save: a writer in memory; put. -/
import Derived.Test.YtkeikkkcmackeaaSaveA
import Derived.Lib.Walk
import Derived.Lib.SliceRun
import Derived.Lib.AppendZerosOnto
namespace Go.Proofs.Ytkeikkkcmackeaa
open Go.RowKit Go.Lib
set_option linter.unusedVariables false
set_option linter.unusedSimpArgs false
set_option maxRecDepth 100000
set_option maxHeartbeats 2000000 in
theorem grow_nil (n : Nat) (w : World) (n0 : 0 < n) (n1 : n ≤ 4194304) :
    Calls Try.prog 89 #[.slice none 0 0, .int .i64 n] w (fun e w' => ∃ bv, e = .returned bv ∧ SRow w' w.heap.size bv [] ∧ Below w.heap.size w w') := by
  obtain ⟨i0, hi, hz0, hz1, hz2⟩ := info_parts saU8
  have hrz : ∀ ty, (Builtin.append_ #[40, 3] ty #[.slice none 0 0, .int .i64 (n : Int)]).run Try.prog w =
      .ok (.slice (some ⟨w.heap.size, 0, none⟩) n (grownCap w n 0 5)) (w.drew.alloc (.cells (([] : List Value).toArray ++ Builtin.zeroCells (Value.int .u8 0).cells n ++ Builtin.zeroCells (Value.int .u8 0).cells (grownCap w n 0 5 - n)) 5)) := fun ty => by
    have h := Lib.run_append_grow_zeros (P := Try.prog) w 40 3 ty 5 i0 (.int .u8 0) .i64 .i64 Try.underlying40 Try.underlying3 hi hz0 none 0 0 [] (run_firstCells_none w.drew i0.size 0 0 0) n (by omega) (by omega) (by omega) (by omega) (by rw [hz2]; omega) (by rw [Nat.zero_add]; exact growslice_fits (by omega) (by rw [hz2]; omega))
    simpa using h
  have hGn : n ≤ grownCap w n 0 5 := grownCap_ge w _ _ _
  have hG63 : grownCap w n 0 5 ≤ maxLen := grownCap_le_maxLen w n 0 5 (by unfold maxLen; omega)
  obtain ⟨G, hG⟩ : ∃ G, G = grownCap w n 0 5 := ⟨_, rfl⟩
  rw [← hG] at hrz hGn hG63
  have hG2 : G ≤ 9223372036854775807 := by unfold maxLen at hG63; omega
  clear hG
  have HG := Lib.hid hG63
  clear hG63
  go_enter Try.func89, Try.ntmps89
  go_wp2_with (at_builtin; refine Lib.wpList_append_run _ rfl _ _ _ _ rfl _ _ rfl rfl _ _ (hrz _) ?_)
  all_goals
    go_ret
    refine ⟨_, rfl, ⟨rfl, Or.inr ⟨w.heap.size, G, _, rfl, Nat.le_refl _, heap_alloc_new w.drew _, by simp, HG.out, ?_, ?_⟩⟩, belowD (belowA (Below.refl _ _) _)⟩
    · simp [size_zeroCells, Value.cells]; omega
    · simp
end Go.Proofs.Ytkeikkkcmackeaa

namespace Go.Proofs.Ytkeikkkcmackeaa
open Go.RowKit
set_option linter.unusedVariables false
set_option linter.unusedSimpArgs false
set_option maxRecDepth 100000

/-- A piece that is not nil. -/
def Pc (w : World) (v : Value) (bs : List Int) : Prop := ∃ g off c, v = .slice (some ⟨g, off, none⟩) bs.length c ∧ ∀ j u, bs[j]? = some u → w.cell? ⟨g, off + j, none⟩ = some (.int .u8 u)
theorem SRow.pc {w : World} {base : Nat} {v : Value} {bs : List Int} (h : SRow w base v bs) (n : bs ≠ []) : Pc w v bs := by
  obtain ⟨g, c, rfl, _, hc⟩ := h.at n
  exact ⟨g, 0, c, rfl, fun j u hj => by rw [Nat.zero_add]; exact hc j u hj⟩
theorem Pc.kept {w w' : World} {v : Value} {bs : List Int} (h : Pc w v bs) (hb : Below w.heap.size w w') : Pc w' v bs := by
  obtain ⟨g, off, c, rfl, hc⟩ := h
  exact ⟨g, off, c, rfl, fun j u hj => keepC hb (hc j u hj)⟩
theorem flat_take (bss : List (List Int)) (k : Nat) (bs : List Int) (h : bss[k]? = some bs) : (bss.take (k + 1)).flatten = (bss.take k).flatten ++ bs := by
  obtain ⟨hi, rfl⟩ := List.getElem?_eq_some_iff.mp h
  rw [List.take_succ_eq_append_getElem hi, List.flatten_append]; simp
theorem flat_le (bss : List (List Int)) (k : Nat) : (bss.take k).flatten.length ≤ bss.flatten.length := by
  rw [show bss.flatten = (bss.take k).flatten ++ (bss.drop k).flatten by rw [← List.flatten_append, List.take_append_drop], List.length_append]; omega
theorem sa_add (b off j : Nat) : (⟨b, off, none⟩ : Addr).add j = ⟨b, off + j, none⟩ := by by_cases j0 : j = 0 <;> simp [Addr.add, j0]
theorem pcNews {w : World} {g off : Nat} {bs : List Int} (hc : ∀ j u, bs[j]? = some u → w.cell? ⟨g, off + j, none⟩ = some (.int .u8 u)) : ∀ j u, (bs.map (Value.int .u8))[j]? = some u → w.cell? ((⟨g, off, none⟩ : Addr).add j) = some u := by
  intro j u hj
  rw [List.getElem?_map] at hj
  obtain ⟨x, hx, rfl⟩ := Option.map_eq_some_iff.mp hj
  rw [sa_add]
  exact hc j x hx
theorem oneNews (bs : List Int) : ∀ u ∈ bs.map (Value.int .u8), u.oneCell' = true := by
  intro u hu
  obtain ⟨x, _, rfl⟩ := List.mem_map.mp hu
  rfl
theorem srowMore {w : World} {base : Nat} {v : Value} {xs bs : List Int} {d : Nat} (hd : bs.length = d) (h : w.ownsRow base 5 1 v (xs.length + d) (xs.map (Value.int .u8) ++ bs.map (Value.int .u8))) : SRow w base v (xs ++ bs) := by
  subst hd
  exact SRow.more h
set_option maxHeartbeats 4000000 in
theorem concat_any (b c : Nat) (pvs : List Value) (bss : List (List Int)) (w : World) (hl : pvs.length = bss.length) (hm : pvs.length ≤ 8)
    (hc : ∀ (k : Nat) (pv : Value), pvs[k]? = some pv → w.cell? ⟨b, k, none⟩ = some pv) (hp : ∀ (k : Nat) (pv : Value) (bs : List Int), pvs[k]? = some pv → bss[k]? = some bs → Pc w pv bs) (h0 : 0 < bss.flatten.length) (h1 : bss.flatten.length ≤ 1048576) :
    Calls Try.prog 75 #[.slice (some ⟨b, 0, none⟩) pvs.length c] w (fun e w' => ∃ bv, e = .returned bv ∧ SRow w' w.heap.size bv bss.flatten ∧ Below w.heap.size w w') := by
  obtain ⟨i0, hi, hz0, hz1, hz2⟩ := info_parts saU8
  have HC := Lib.hid hc
  have HP := Lib.hid hp
  obtain ⟨m, hmm⟩ : ∃ m, pvs.length = m := ⟨_, rfl⟩
  have HM := Lib.hid hmm
  have HL := Lib.hid hl
  rw [hmm] at hm ⊢
  obtain ⟨F, hF⟩ : ∃ F, bss.flatten = F := ⟨_, rfl⟩
  have HF := Lib.hid hF
  rw [hF] at h0 h1 ⊢
  have hle : ∀ k, (bss.take k).flatten.length ≤ F.length := fun k => by rw [← hF]; exact flat_le bss k
  have HLE := Lib.hid hle
  obtain ⟨fl, hfl⟩ : ∃ fl, F.length = fl := ⟨_, rfl⟩
  have HFL := Lib.hid hfl
  rw [hfl] at h0 h1
  clear hc hp hl hmm hF hle hfl
  go_enter Try.func75, Try.ntmps75
  go_wp2_with fail
  go_loopw [3, 11] (fun s i wr => ∃ k : Nat, k ≤ m ∧ i = .int .i64 k ∧ s = .int .i64 ((bss.take k).flatten.length : Nat) ∧ wr = w) (fun _ i _ => m - (intOf i).toNat)
  case atStart => exact ⟨0, by omega, rfl, by simp, rfl⟩
  case round =>
    obtain ⟨k, hk, rfl, rfl, rfl⟩ := hrel
    by_cases hlt : k < m
    · have hx : pvs[k]? = some (pvs[k]'(by rw [HM.out]; exact hlt)) := by simp
      have hy : bss[k]? = some (bss[k]'(by rw [← HL.out, HM.out]; exact hlt)) := by simp
      obtain ⟨pv, hpv⟩ : ∃ pv, pvs[k]'(by rw [HM.out]; exact hlt) = pv := ⟨_, rfl⟩
      obtain ⟨bs, hbs⟩ : ∃ bs, bss[k]'(by rw [← HL.out, HM.out]; exact hlt) = bs := ⟨_, rfl⟩
      rw [hpv] at hx
      rw [hbs] at hy
      have q0 := HC.out k pv hx
      obtain ⟨g, off, cp, rfl, _⟩ := HP.out k pv bs hx hy
      have e1 := flat_take bss k bs hy
      have l1 := HLE.out (k + 1)
      rw [HFL.out] at l1
      rw [e1, List.length_append] at l1
      have E1 := Lib.hid (show ((bss.take (k + 1)).flatten.length : Int) = ((bss.take k).flatten.length : Int) + bs.length by rw [e1, List.length_append]; simp)
      obtain ⟨a, ha⟩ : ∃ a, (bss.take k).flatten.length = a := ⟨_, rfl⟩
      rw [ha] at l1 E1 ⊢
      obtain ⟨d, hd⟩ : ∃ d, bs.length = d := ⟨_, rfl⟩
      rw [hd] at q0 l1 E1
      clear hx hy hpv hbs e1 ha hd
      go_wp2_with fail
      go_roundw
      case rel => exact ⟨k + 1, by omega, by go_num, by rw [E1.out]; try go_num, by first | rfl | trivial⟩
      case measure => simp [intOf]; omega
    · have hkm : k = m := by omega
      subst hkm
      have e1 : (bss.take k).flatten.length = fl := by
        rw [List.take_of_length_le (by rw [← HL.out, HM.out]; exact Nat.le_refl _), HF.out, HFL.out]
      rw [e1]
      clear e1
      obtain ⟨w0, rfl⟩ : ∃ w0 : World, w0 = wr := ⟨_, rfl⟩
      go_wp2_with fail
      refine (grow_nil fl w0 h0 (by omega)).mono ?_
      rintro e w1 ⟨bv, rfl, r', b'⟩
      have R1 := Lib.hid r'
      have B1 := Lib.hid b'
      clear r' b'
      go_wp2_with fail
      go_loopw [6, 27] (fun s i wr2 => ∃ q : Nat, q ≤ k ∧ i = .int .i64 q ∧ SRow wr2 w0.heap.size s (bss.take q).flatten ∧ Below w0.heap.size w0 wr2) (fun _ i _ => k - (intOf i).toNat)
      case atStart => exact ⟨0, by omega, rfl, by simpa using R1.out, B1.out⟩
      case round =>
        obtain ⟨q, hq, rfl, r', b'⟩ := hrel
        have R2 := Lib.hid r'
        have B2 := Lib.hid b'
        clear r' b' R1 B1
        by_cases hlq : q < k
        · have hx : pvs[q]? = some (pvs[q]'(by rw [HM.out]; exact hlq)) := by simp
          have hy : bss[q]? = some (bss[q]'(by rw [← HL.out, HM.out]; exact hlq)) := by simp
          obtain ⟨pv, hpv⟩ : ∃ pv, pvs[q]'(by rw [HM.out]; exact hlq) = pv := ⟨_, rfl⟩
          obtain ⟨bs, hbs⟩ : ∃ bs, bss[q]'(by rw [← HL.out, HM.out]; exact hlq) = bs := ⟨_, rfl⟩
          rw [hpv] at hx
          rw [hbs] at hy
          have q0 := keepC B2.out (HC.out q pv hx)
          obtain ⟨g, off, cp, rfl, hcell⟩ := (HP.out q pv bs hx hy).kept B2.out
          have E1 := Lib.hid (flat_take bss q bs hy)
          have l1 := HLE.out (q + 1)
          rw [HFL.out, E1.out, List.length_append] at l1
          have own := R2.out
          unfold SRow at own
          obtain ⟨X, hX⟩ : ∃ X, (bss.take q).flatten = X := ⟨_, rfl⟩
          rw [hX] at own l1 E1
          have HNW : Hid (∀ j u, (bs.map (Value.int .u8))[j]? = some u → wr.cell? ((⟨g, off, none⟩ : Addr).add j) = some u) := Lib.hid (pcNews hcell)
          have H1C : Hid (∀ u ∈ bs.map (Value.int .u8), u.oneCell' = true) := Lib.hid (oneNews bs)
          obtain ⟨d, hd⟩ : ∃ d, bs.length = d := ⟨_, rfl⟩
          have HD := Lib.hid hd
          rw [hd] at q0 l1
          have HL3 : Hid ((bs.map (Value.int .u8)).length = d * 1) := Lib.hid (by rw [List.length_map, hd, Nat.mul_one])
          have hsz := B2.out.size
          clear hx hy hpv hbs hX hcell hd
          go_wp2_with (first
            | (at_builtin; refine wpList_append_own_at _ rfl _ _ 40 rfl w0.heap.size 5 i0 (.int .u8 0) 1 1 Try.underlying40 hi hz0 hz1 hz2 rfl (by decide) _ X.length _ rfl own ⟨g, off, none⟩ d cp (bs.map (Value.int .u8)) rfl HL3.out HNW.out H1C.out (by unfold maxLen; omega) (by omega) hsz ?_; intro v1 w1 own1 hg1 hnil1 hat1))
          have R3 := Lib.hid (srowMore HD.out own1)
          have B3 := Lib.hid (B2.out.grown hg1 hsz (fun k e => own_base' own e))
          clear own own1 hg1 hnil1 hat1
          go_roundw
          case rel => exact ⟨q + 1, by omega, by go_num, by rw [E1.out]; exact R3.out, B3.out⟩
          case measure => simp [intOf]; omega
        · have hqk : q = k := by omega
          subst hqk
          have e1 : (bss.take q).flatten = F := by
            rw [List.take_of_length_le (by rw [← HL.out, HM.out]; exact Nat.le_refl _), HF.out]
          rw [e1] at R2
          clear e1
          go_wp2_with fail
          go_ret
          exact ⟨_, rfl, R2.out, B2.out⟩
end Go.Proofs.Ytkeikkkcmackeaa

namespace Go.Proofs.Ytkeikkkcmackeaa
open Go.RowKit
set_option linter.unusedVariables false
set_option linter.unusedSimpArgs false
set_option maxRecDepth 100000

/-- A writer's cells: its bytes, no part open, nothing wrong. -/
def wrCells (bv : Value) : Array Value := #[bv, .int .i64 0, .int .i64 0, .int .i64 0, .int .i64 0, .int .i64 0, .int .i64 0, .int .i64 0, .int .i64 0, .int .i64 0, .int .i64 0, .int .i64 0, .int .i64 0, .int .i64 0, .int .i64 0, .int .i64 0, .int .i64 0, .int .i64 0, .int .i64 0]
/-- A writer at block g whose bytes are bs, as the slice bv. -/
structure Wr (w : World) (g : Nat) (bv : Value) (bs : List Int) : Prop where
  blk : Blk w g 118 (wrCells bv)
  row : SRow w 0 bv bs
  apart : ∀ b, bv.ownBlock = some b → b ≠ g
/-- Of what was there only the writer and its bytes may have changed; the bytes lie where they lay, or in new memory. -/
structure WStep (W : World) (g : Nat) (bv : Value) (w' : World) (bv' : Value) : Prop where
  os : w'.os = W.os
  tape : w'.tape = W.tape
  output : w'.output = W.output
  size : W.heap.size ≤ w'.heap.size
  block : ∀ i, i < W.heap.size → i ≠ g → bv.ownBlock ≠ some i → w'.heap[i]? = W.heap[i]?
  own : ∀ b, bv'.ownBlock = some b → bv.ownBlock = some b ∨ W.heap.size ≤ b
section
variable {W w w' w2 : World} {g : Nat} {bv bv' bv2 : Value} {bs : List Int}
theorem WStep.refl (W : World) (g : Nat) (bv : Value) : WStep W g bv W bv := ⟨rfl, rfl, rfl, Nat.le_refl _, fun _ _ _ _ => rfl, fun _ h => Or.inl h⟩
theorem WStep.trans (h : WStep W g bv w' bv') (k : WStep w' g bv' w2 bv2) : WStep W g bv w2 bv2 :=
  ⟨k.os.trans h.os, k.tape.trans h.tape, k.output.trans h.output, Nat.le_trans h.size k.size,
   fun i hi n1 n2 => (k.block i (Nat.lt_of_lt_of_le hi h.size) n1 (fun e => by
     rcases h.own i e with e' | e'
     · exact n2 e'
     · omega)).trans (h.block i hi n1 n2),
   fun b hb => by
     rcases k.own b hb with e | e
     · exact h.own b e
     · exact Or.inr (Nat.le_trans h.size e)⟩
theorem WStep.ofBelow (h : Below W.heap.size W w') (g : Nat) (bv : Value) : WStep W g bv w' bv := ⟨h.os, h.tape, h.output, h.size, fun i hi _ _ => h.block i hi, fun _ h => Or.inl h⟩
theorem WStep.below (h : WStep W g bv w' bv') (k : Below w'.heap.size w' w2) : WStep W g bv w2 bv' := h.trans (WStep.ofBelow k g bv')
theorem WStep.cell (h : WStep W g bv w' bv') {p : Addr} {v : Value} (hc : W.cell? p = some v) (n : p.block ≠ g) (n2 : bv.ownBlock ≠ some p.block) : w'.cell? p = some v := by
  rw [← hc]; exact World.cell?_of_block (h.block _ (World.block_lt_of_cell? _ _ hc) n n2)
theorem WStep.blk {b : Nat} {t : TypeId} {cs : Array Value} (h : WStep W g bv w' bv') (hb : Blk W b t cs) (n : b ≠ g) (n2 : bv.ownBlock ≠ some b) : Blk w' b t cs := (h.block b hb.lt n n2).trans hb
/-- A writer of the call's own. -/
theorem WStep.out {W0 : World} (h : WStep W g bv w' bv') (b : Below W0.heap.size W0 W) (hg : W0.heap.size ≤ g) (ho : ∀ b, bv.ownBlock = some b → W0.heap.size ≤ b) : Below W0.heap.size W0 w' ∧ ∀ b, bv'.ownBlock = some b → W0.heap.size ≤ b :=
  ⟨b.trans ⟨h.os, h.tape, h.output, h.size, fun i hi => h.block i (Nat.lt_of_lt_of_le hi b.size) (by omega) (fun e => by have := ho i e; omega)⟩,
   fun x hx => by
     rcases h.own x hx with e | e
     · exact ho x e
     · exact Nat.le_trans b.size e⟩
theorem Wr.kept (h : Wr W g bv bs) (hb : Below W.heap.size W w') : Wr w' g bv bs := ⟨h.blk.kept hb, h.row.below hb, h.apart⟩
theorem Wr.upd (h : Wr W g bv bs) {p : Nat} (hu : Upd W p w') (n : p ≠ g) (n2 : bv.ownBlock ≠ some p) : Wr w' g bv bs :=
  ⟨hu.blk h.blk (fun e => n e.symm), h.row.same (fun k hk => hu.block k (h.row.lt hk) (fun e => n2 (by rw [hk, e]))), h.apart⟩
theorem Wr.lt (h : Wr W g bv bs) : g < W.heap.size := h.blk.lt
theorem Wr.facts (h : Wr W g bv bs) : W.cell? ⟨g, 0, none⟩ = some bv ∧ W.frozen? ⟨g, 0, none⟩ = false ∧ W.cell? ⟨g, 17, none⟩ = some (.int .i64 0) ∧ W.cell? ⟨g, 18, none⟩ = some (.int .i64 0) :=
  ⟨h.blk.cell 0, h.blk.frozen 0, h.blk.cell 17, h.blk.cell 18⟩
end
def PutP (W : World) (g : Nat) (bv : Value) (bs' : List Int) (e : Ending) (w' : World) : Prop := e = .returned (.tuple #[]) ∧ ∃ bv', Wr w' g bv' bs' ∧ WStep W g bv w' bv'
theorem put_end {w w2 : World} {g : Nat} {bv v1 : Value} {bs F : List Int} (h : Wr w g bv bs) (own : w2.ownsRow 0 5 1 v1 (bs.length + F.length) (bs.map (Value.int .u8) ++ F.map (Value.int .u8))) (hg : w.grownBy w2 bv.ownBlock)
    (hat : v1.ownBlock = bv.ownBlock ∨ v1.ownBlock = some w.heap.size) : Blk w2 g 118 (wrCells bv) ∧ Wr (w2.setCell ⟨g, 0, none⟩ v1) g v1 (bs ++ F) ∧ WStep w g bv (w2.setCell ⟨g, 0, none⟩ v1) v1 := by
  have hb : Blk w2 g 118 (wrCells bv) := (hg.block g h.lt (fun e => h.apart g e.symm rfl)).trans h.blk
  have ap : ∀ b, v1.ownBlock = some b → b ≠ g := by
    intro b hv e
    subst e
    rcases hat with e | e
    · exact h.apart b (by rw [← e]; exact hv) rfl
    · rw [hv] at e
      have := h.lt
      injection e with e
      omega
  have hr : SRow w2 0 v1 (bs ++ F) := SRow.more own
  refine ⟨hb, ⟨hb.set_ 0 v1, hr.same (fun k hk => Below.heap_setCell _ _ _ _ (ap k hk)), ap⟩, ⟨hg.os, hg.tape, hg.output, by simpa [World.setCell] using hg.size, fun i hi n1 n2 => (Below.heap_setCell _ _ _ _ n1).trans (hg.block i hi (fun e => n2 e.symm)), fun b hb => ?_⟩⟩
  rcases hat with e | e
  · exact Or.inl (by rw [← e]; exact hb)
  · rw [hb] at e
    injection e with e
    exact Or.inr (by omega)
set_option maxHeartbeats 4000000 in
theorem put_any {w : World} {g : Nat} {bv : Value} {bs : List Int} (H : Wr w g bv bs) (b c : Nat) (pvs : List Value) (bss : List (List Int)) (hl : pvs.length = bss.length) (hm : pvs.length ≤ 8)
    (hc : ∀ (k : Nat) (pv : Value), pvs[k]? = some pv → w.cell? ⟨b, k, none⟩ = some pv) (hp : ∀ (k : Nat) (pv : Value) (bs : List Int), pvs[k]? = some pv → bss[k]? = some bs → Pc w pv bs) (h0 : 0 < bss.flatten.length) (h1 : bss.flatten.length ≤ 1048576) (h2 : bs.length ≤ 1048576) :
    Calls Try.prog 80 #[.pointer (some ⟨g, 0, none⟩), .slice (some ⟨b, 0, none⟩) pvs.length c] w (PutP w g bv (bs ++ bss.flatten)) := by
  obtain ⟨i0, hi, hz0, hz1, hz2⟩ := info_parts saU8
  have CC := Lib.hid (concat_any b c pvs bss w hl hm hc hp h0 h1)
  clear hc hp hl hm
  obtain ⟨F, hF⟩ : ∃ F, bss.flatten = F := ⟨_, rfl⟩
  rw [hF] at h0 h1 CC ⊢
  obtain ⟨n, hn⟩ : ∃ n, pvs.length = n := ⟨_, rfl⟩
  rw [hn] at CC ⊢
  clear hF hn
  have HH := Lib.hid H
  clear H
  go_enter Try.func80, Try.ntmps80
  go_wp2_with fail
  refine CC.out.mono ?_
  rintro e w1 ⟨av, rfl, r', b'⟩
  have H1 := Lib.hid (HH.out.kept b')
  have B1 := Lib.hid b'
  obtain ⟨ga, ca, rfl, _, hca⟩ := r'.at (fun e => by rw [e] at h0; exact absurd h0 (Nat.lt_irrefl _))
  have HCA : Hid (∀ j u, (F.map (Value.int .u8))[j]? = some u → w1.cell? ((⟨ga, 0, none⟩ : Addr).add j) = some u) := Lib.hid (pcNews (fun j u hj => by rw [Nat.zero_add]; exact hca j u hj))
  clear r' b' hca HH CC
  obtain ⟨c0, f0, _, _⟩ := H1.out.facts
  have own := H1.out.row
  unfold SRow at own
  obtain ⟨ao, cb, hbv⟩ := H1.out.row.slice
  have HBV := Lib.hid hbv
  rw [hbv] at c0
  have own' : w1.ownsRow 0 5 1 (.slice ao bs.length cb) bs.length (bs.map (Value.int .u8)) := by rw [← hbv]; exact own
  have ONE := Lib.hid (oneNews F)
  clear own hbv
  have G0 : Hid (∀ v1 w2, w2.ownsRow 0 5 1 v1 (bs.length + F.length) (bs.map (Value.int .u8) ++ F.map (Value.int .u8)) → w1.grownBy w2 (Value.slice ao bs.length cb).ownBlock → (v1.ownBlock = (Value.slice ao bs.length cb).ownBlock ∨ v1.ownBlock = some w1.heap.size) →
      Blk w2 g 118 (wrCells bv) ∧ Wr (w2.setCell ⟨g, 0, none⟩ v1) g v1 (bs ++ F) ∧ WStep w1 g bv (w2.setCell ⟨g, 0, none⟩ v1) v1) := Lib.hid (fun v1 w2 a1 a2 a3 => put_end H1.out a1 (by rw [HBV.out]; exact a2) (by rw [HBV.out]; exact a3))
  have HL3 : Hid ((F.map (Value.int .u8)).length = F.length * 1) := Lib.hid (by rw [List.length_map, Nat.mul_one])
  go_wp2_with (first
    | (at_builtin; refine wpList_append_own_at _ rfl _ _ 40 rfl 0 5 i0 (.int .u8 0) 1 1 Try.underlying40 hi hz0 hz1 hz2 rfl (by decide) _ bs.length _ rfl own' ⟨ga, 0, none⟩ F.length ca (F.map (Value.int .u8)) rfl HL3.out HCA.out ONE.out (by unfold maxLen; omega) (by omega) (Nat.zero_le _) ?_; intro v1 w2 own1 hg1 hnil1 hat1; have Z := Lib.hid (G0.out v1 w2 own1 hg1 hat1); have z0 := Z.out.1.cell 0; have z1 := Z.out.1.frozen 0; have z2 : w2.cell? ⟨g, 0, none⟩ = some bv := z0; have sl := (SRow.more own1).slice; rw [List.length_append] at sl; clear z0 own1 hg1 hnil1 hat1; obtain ⟨ao1, c1, rfl⟩ := sl))
  go_end0
  exact ⟨rfl, _, Z.out.2.1, (WStep.ofBelow B1.out g bv).trans Z.out.2.2⟩
end Go.Proofs.Ytkeikkkcmackeaa
