/- save: a writer in memory; put. -/
import Derived.Test.YtniagcbajjmopaaGreatSaveC
namespace Go.Proofs.YtniagcbajjmopaaGreat
open Go.RowKit
set_option linter.unusedVariables false
set_option linter.unusedSimpArgs false
set_option maxRecDepth 100000

/-- A writer's cells: its bytes, no part open, nothing wrong. -/
def wrCells (bv : Value) : Array Value := #[bv, .int .i64 0, .int .i64 0, .int .i64 0, .int .i64 0, .int .i64 0, .int .i64 0, .int .i64 0, .int .i64 0, .int .i64 0, .int .i64 0, .int .i64 0, .int .i64 0, .int .i64 0, .int .i64 0, .int .i64 0, .int .i64 0, .int .i64 0, .int .i64 0]
/-- A writer at block g whose bytes are bs, as the slice bv. -/
structure Wr (w : World) (g : Nat) (bv : Value) (bs : List Int) : Prop where
  blk : Blk w g 91 (wrCells bv)
  row : SRow w 0 bv bs
  apart : ∀ b, bv.ownBlock = some b → b ≠ g
/-- Of what was there only the writer and its bytes may have changed; the bytes lie where they lay, or in new memory. -/
structure WStep (W : World) (g : Nat) (bv : Value) (w' : World) (bv' : Value) : Prop where
  os : w'.os = W.os
  tape : w'.tape = W.tape
  output : w'.output = W.output
  size : W.heap.size ≤ w'.heap.size
  block : ∀ i, i < W.heap.size → i ≠ g → bv.ownBlock ≠ some i → w'.heap[i]? = W.heap[i]?
  own : ∀ b, bv'.ownBlock = some b → bv.ownBlock = some b ∨ W.heap.size ≤ b
section
variable {W w w' w2 : World} {g : Nat} {bv bv' bv2 : Value} {bs : List Int}
theorem WStep.refl (W : World) (g : Nat) (bv : Value) : WStep W g bv W bv := ⟨rfl, rfl, rfl, Nat.le_refl _, fun _ _ _ _ => rfl, fun _ h => Or.inl h⟩
theorem WStep.trans (h : WStep W g bv w' bv') (k : WStep w' g bv' w2 bv2) : WStep W g bv w2 bv2 :=
  ⟨k.os.trans h.os, k.tape.trans h.tape, k.output.trans h.output, Nat.le_trans h.size k.size,
   fun i hi n1 n2 => (k.block i (Nat.lt_of_lt_of_le hi h.size) n1 (fun e => by
     rcases h.own i e with e' | e'
     · exact n2 e'
     · omega)).trans (h.block i hi n1 n2),
   fun b hb => by
     rcases k.own b hb with e | e
     · exact h.own b e
     · exact Or.inr (Nat.le_trans h.size e)⟩
theorem WStep.ofBelow (h : Below W.heap.size W w') (g : Nat) (bv : Value) : WStep W g bv w' bv := ⟨h.os, h.tape, h.output, h.size, fun i hi _ _ => h.block i hi, fun _ h => Or.inl h⟩
theorem WStep.below (h : WStep W g bv w' bv') (k : Below w'.heap.size w' w2) : WStep W g bv w2 bv' := h.trans (WStep.ofBelow k g bv')
theorem WStep.cell (h : WStep W g bv w' bv') {p : Addr} {v : Value} (hc : W.cell? p = some v) (n : p.block ≠ g) (n2 : bv.ownBlock ≠ some p.block) : w'.cell? p = some v := by
  rw [← hc]; exact World.cell?_of_block (h.block _ (World.block_lt_of_cell? _ _ hc) n n2)
theorem WStep.blk {b : Nat} {t : TypeId} {cs : Array Value} (h : WStep W g bv w' bv') (hb : Blk W b t cs) (n : b ≠ g) (n2 : bv.ownBlock ≠ some b) : Blk w' b t cs := (h.block b hb.lt n n2).trans hb
/-- A writer of the call's own. -/
theorem WStep.out {W0 : World} (h : WStep W g bv w' bv') (b : Below W0.heap.size W0 W) (hg : W0.heap.size ≤ g) (ho : ∀ b, bv.ownBlock = some b → W0.heap.size ≤ b) : Below W0.heap.size W0 w' ∧ ∀ b, bv'.ownBlock = some b → W0.heap.size ≤ b :=
  ⟨b.trans ⟨h.os, h.tape, h.output, h.size, fun i hi => h.block i (Nat.lt_of_lt_of_le hi b.size) (by omega) (fun e => by have := ho i e; omega)⟩,
   fun x hx => by
     rcases h.own x hx with e | e
     · exact ho x e
     · exact Nat.le_trans b.size e⟩
theorem Wr.kept (h : Wr W g bv bs) (hb : Below W.heap.size W w') : Wr w' g bv bs := ⟨h.blk.kept hb, h.row.below hb, h.apart⟩
theorem Wr.upd (h : Wr W g bv bs) {p : Nat} (hu : Upd W p w') (n : p ≠ g) (n2 : bv.ownBlock ≠ some p) : Wr w' g bv bs :=
  ⟨hu.blk h.blk (fun e => n e.symm), h.row.same (fun k hk => hu.block k (h.row.lt hk) (fun e => n2 (by rw [hk, e]))), h.apart⟩
theorem Wr.lt (h : Wr W g bv bs) : g < W.heap.size := h.blk.lt
theorem Wr.facts (h : Wr W g bv bs) : W.cell? ⟨g, 0, none⟩ = some bv ∧ W.frozen? ⟨g, 0, none⟩ = false ∧ W.cell? ⟨g, 17, none⟩ = some (.int .i64 0) ∧ W.cell? ⟨g, 18, none⟩ = some (.int .i64 0) :=
  ⟨h.blk.cell 0, h.blk.frozen 0, h.blk.cell 17, h.blk.cell 18⟩
end
def PutP (W : World) (g : Nat) (bv : Value) (bs' : List Int) (e : Ending) (w' : World) : Prop := e = .returned (.tuple #[]) ∧ ∃ bv', Wr w' g bv' bs' ∧ WStep W g bv w' bv'
theorem put_end {w w2 : World} {g : Nat} {bv v1 : Value} {bs F : List Int} (h : Wr w g bv bs) (own : w2.ownsRow 0 5 1 v1 (bs.length + F.length) (bs.map (Value.int .u8) ++ F.map (Value.int .u8))) (hg : w.grownBy w2 bv.ownBlock)
    (hat : v1.ownBlock = bv.ownBlock ∨ v1.ownBlock = some w.heap.size) : Blk w2 g 91 (wrCells bv) ∧ Wr (w2.setCell ⟨g, 0, none⟩ v1) g v1 (bs ++ F) ∧ WStep w g bv (w2.setCell ⟨g, 0, none⟩ v1) v1 := by
  have hb : Blk w2 g 91 (wrCells bv) := (hg.block g h.lt (fun e => h.apart g e.symm rfl)).trans h.blk
  have ap : ∀ b, v1.ownBlock = some b → b ≠ g := by
    intro b hv e
    subst e
    rcases hat with e | e
    · exact h.apart b (by rw [← e]; exact hv) rfl
    · rw [hv] at e
      have := h.lt
      injection e with e
      omega
  have hr : SRow w2 0 v1 (bs ++ F) := SRow.more own
  refine ⟨hb, ⟨hb.set_ 0 v1, hr.same (fun k hk => Below.heap_setCell _ _ _ _ (ap k hk)), ap⟩, ⟨hg.os, hg.tape, hg.output, by simpa [World.setCell] using hg.size, fun i hi n1 n2 => (Below.heap_setCell _ _ _ _ n1).trans (hg.block i hi (fun e => n2 e.symm)), fun b hb => ?_⟩⟩
  rcases hat with e | e
  · exact Or.inl (by rw [← e]; exact hb)
  · rw [hb] at e
    injection e with e
    exact Or.inr (by omega)
set_option maxHeartbeats 4000000 in
theorem put_any {w : World} {g : Nat} {bv : Value} {bs : List Int} (H : Wr w g bv bs) (b c : Nat) (pvs : List Value) (bss : List (List Int)) (hl : pvs.length = bss.length) (hm : pvs.length ≤ 8)
    (hc : ∀ (k : Nat) (pv : Value), pvs[k]? = some pv → w.cell? ⟨b, k, none⟩ = some pv) (hp : ∀ (k : Nat) (pv : Value) (bs : List Int), pvs[k]? = some pv → bss[k]? = some bs → Pc w pv bs) (h0 : 0 < bss.flatten.length) (h1 : bss.flatten.length ≤ 1048576) (h2 : bs.length ≤ 1048576) :
    Calls Tryz.prog 79 #[.pointer (some ⟨g, 0, none⟩), .slice (some ⟨b, 0, none⟩) pvs.length c] w (PutP w g bv (bs ++ bss.flatten)) := by
  obtain ⟨i0, hi, hz0, hz1, hz2⟩ := info_parts saU8
  have CC := Lib.hid (concat_any b c pvs bss w hl hm hc hp h0 h1)
  clear hc hp hl hm
  obtain ⟨F, hF⟩ : ∃ F, bss.flatten = F := ⟨_, rfl⟩
  rw [hF] at h0 h1 CC ⊢
  obtain ⟨n, hn⟩ : ∃ n, pvs.length = n := ⟨_, rfl⟩
  rw [hn] at CC ⊢
  clear hF hn
  have HH := Lib.hid H
  clear H
  go_enter Tryz.func79, Tryz.ntmps79
  go_wp2_with fail
  refine CC.out.mono ?_
  rintro e w1 ⟨av, rfl, r', b'⟩
  have H1 := Lib.hid (HH.out.kept b')
  have B1 := Lib.hid b'
  obtain ⟨ga, ca, rfl, _, hca⟩ := r'.at (fun e => by rw [e] at h0; exact absurd h0 (Nat.lt_irrefl _))
  have HCA : Hid (∀ j u, (F.map (Value.int .u8))[j]? = some u → w1.cell? ((⟨ga, 0, none⟩ : Addr).add j) = some u) := Lib.hid (pcNews (fun j u hj => by rw [Nat.zero_add]; exact hca j u hj))
  clear r' b' hca HH CC
  obtain ⟨c0, f0, _, _⟩ := H1.out.facts
  have own := H1.out.row
  unfold SRow at own
  obtain ⟨ao, cb, hbv⟩ := H1.out.row.slice
  have HBV := Lib.hid hbv
  rw [hbv] at c0
  have own' : w1.ownsRow 0 5 1 (.slice ao bs.length cb) bs.length (bs.map (Value.int .u8)) := by rw [← hbv]; exact own
  have ONE := Lib.hid (oneNews F)
  clear own hbv
  have G0 : Hid (∀ v1 w2, w2.ownsRow 0 5 1 v1 (bs.length + F.length) (bs.map (Value.int .u8) ++ F.map (Value.int .u8)) → w1.grownBy w2 (Value.slice ao bs.length cb).ownBlock → (v1.ownBlock = (Value.slice ao bs.length cb).ownBlock ∨ v1.ownBlock = some w1.heap.size) →
      Blk w2 g 91 (wrCells bv) ∧ Wr (w2.setCell ⟨g, 0, none⟩ v1) g v1 (bs ++ F) ∧ WStep w1 g bv (w2.setCell ⟨g, 0, none⟩ v1) v1) := Lib.hid (fun v1 w2 a1 a2 a3 => put_end H1.out a1 (by rw [HBV.out]; exact a2) (by rw [HBV.out]; exact a3))
  have HL3 : Hid ((F.map (Value.int .u8)).length = F.length * 1) := Lib.hid (by rw [List.length_map, Nat.mul_one])
  go_wp2_with (first
    | (at_builtin; refine wpList_append_own_at _ rfl _ _ 40 rfl 0 5 i0 (.int .u8 0) 1 1 Tryz.underlying40 hi hz0 hz1 hz2 rfl (by decide) _ bs.length _ rfl own' ⟨ga, 0, none⟩ F.length ca (F.map (Value.int .u8)) rfl HL3.out HCA.out ONE.out (by unfold maxLen; omega) (by omega) (Nat.zero_le _) ?_; intro v1 w2 own1 hg1 hnil1 hat1; have Z := Lib.hid (G0.out v1 w2 own1 hg1 hat1); have z0 := Z.out.1.cell 0; have z1 := Z.out.1.frozen 0; have z2 : w2.cell? ⟨g, 0, none⟩ = some bv := z0; have sl := (SRow.more own1).slice; rw [List.length_append] at sl; clear z0 own1 hg1 hnil1 hat1; obtain ⟨ao1, c1, rfl⟩ := sl))
  go_end0
  exact ⟨rfl, _, Z.out.2.1, (WStep.ofBelow B1.out g bv).trans Z.out.2.2⟩
end Go.Proofs.YtniagcbajjmopaaGreat
