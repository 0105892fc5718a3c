/- A board is made: New, where it can be. -/
import Derived.Test.YtbfpacngphjkcaaBoardD
import Derived.Test.YtbfpacngphjkcaaBoardC
namespace Go.Proofs.Ytbfpacngphjkcaa
open Go.RowKit
set_option linter.unusedVariables false
set_option linter.unusedSimpArgs false

/-- A board in memory, all of it in blocks from B on. -/
structure BoardIn (w : World) (B : Nat) (lay : Int) (gb gr gm ga gc n cap r : Nat) (f h : Nat → Int) : Prop where
  cells : Cells w lay gb gr gm ga gc n cap r
  rom : Arr w .u8 5 gm n f
  ram : Arr w .u8 5 ga r h
  nb : gb ≠ ga
  nr : gr ≠ ga
  nm : gm ≠ ga
  nc : lay ≠ 1 → gc ≠ ga
  lb : B ≤ gb
  la : B ≤ ga
  lr : B ≤ gr
  lm : B ≤ gm
  lc : lay ≠ 1 → B ≤ gc
theorem Cells.keep {w w' : World} {lay : Int} {gb gr gm ga gc n cap r : Nat} (h : Cells w lay gb gr gm ga gc n cap r) (k : ∀ b o v, (b = gb ∨ b = gr ∨ (lay ≠ 1 ∧ b = gc)) → w.cell? ⟨b, o, none⟩ = some v → w'.cell? ⟨b, o, none⟩ = some v) : Cells w' lay gb gr gm ga gc n cap r where
  b0 := k _ _ _ (Or.inl rfl) h.b0
  b1 := k _ _ _ (Or.inl rfl) h.b1
  b2 := k _ _ _ (Or.inl rfl) h.b2
  r0 := k _ _ _ (Or.inr (Or.inl rfl)) h.r0
  r3 := k _ _ _ (Or.inr (Or.inl rfl)) h.r3
  r1 := k _ _ _ (Or.inr (Or.inl rfl)) h.r1
  r2 := k _ _ _ (Or.inr (Or.inl rfl)) h.r2
  r4 := k _ _ _ (Or.inr (Or.inl rfl)) h.r4
  r5 := k _ _ _ (Or.inr (Or.inl rfl)) h.r5
  c0 := fun hl => k _ _ _ (Or.inr (Or.inr ⟨hl, rfl⟩)) (h.c0 hl)
theorem BoardIn.kept {w w' : World} {B : Nat} {lay : Int} {gb gr gm ga gc n cap r : Nat} {f h : Nat → Int} (b : BoardIn w B lay gb gr gm ga gc n cap r f h) (k : Below w.heap.size w w') : BoardIn w' B lay gb gr gm ga gc n cap r f h :=
  { b with
    cells := b.cells.keep fun b o v _ hv => by rw [← hv]; exact k.cell (p := ⟨b, o, none⟩) (World.block_lt_of_cell? _ _ hv)
    rom := b.rom.kept k
    ram := b.ram.kept k }
/-- The memory alone has changed. -/
theorem BoardIn.upd {w w' : World} {B : Nat} {lay : Int} {gb gr gm ga gc n cap r : Nat} {f h h' : Nat → Int} (b : BoardIn w B lay gb gr gm ga gc n cap r f h) (k : Upd w ga w') (hr : Arr w' .u8 5 ga r h') : BoardIn w' B lay gb gr gm ga gc n cap r f h' :=
  { b with
    cells := b.cells.keep fun c o v hc hv => by
      have hn : c ≠ ga := by
        rcases hc with rfl | rfl | ⟨hl, rfl⟩
        · exact b.nb
        · exact b.nr
        · exact b.nc hl
      rw [← hv]; exact k.cell (p := ⟨c, o, none⟩) (World.block_lt_of_cell? _ _ hv) hn
    rom := k.arr b.rom b.nm
    ram := hr }

/-- Another block has changed, an older one. -/
theorem BoardIn.away {w w' : World} {B : Nat} {lay : Int} {gb gr gm ga gc n cap r g : Nat} {f h : Nat → Int} (b : BoardIn w B lay gb gr gm ga gc n cap r f h) (k : Upd w g w') (hg : g < B) : BoardIn w' B lay gb gr gm ga gc n cap r f h :=
  { b with
    cells := b.cells.keep fun c o v hc hv => by
      have hn : c ≠ g := by
        rcases hc with rfl | rfl | ⟨hl, rfl⟩
        · have := b.lb; omega
        · have := b.lr; omega
        · have := b.lc hl; omega
      rw [← hv]; exact k.cell (p := ⟨c, o, none⟩) (World.block_lt_of_cell? _ _ hv) hn
    rom := k.arr b.rom (by have := b.lm; omega)
    ram := k.arr b.ram (by have := b.la; omega) }
theorem BoardIn.mono {w : World} {B B' : Nat} {lay : Int} {gb gr gm ga gc n cap r : Nat} {f h : Nat → Int} (b : BoardIn w B lay gb gr gm ga gc n cap r f h) (k : B' ≤ B) : BoardIn w B' lay gb gr gm ga gc n cap r f h :=
  { b with
    lb := Nat.le_trans k b.lb
    la := Nat.le_trans k b.la
    lr := Nat.le_trans k b.lr
    lm := Nat.le_trans k b.lm
    lc := fun h => Nat.le_trans k (b.lc h) }

def Made (lay : Int) (n ram : Nat) (f : Nat → Int) (W : World) (e : Ending) (w' : World) : Prop :=
  ∃ gb gr gm ga gc cap, e = .returned (.tuple #[.pointer (some ⟨gb, 0, none⟩), .int .i64 0]) ∧ BoardIn w' W.heap.size lay gb gr gm ga gc n cap ram f (fun _ => 0) ∧ Below W.heap.size W w'

theorem keepC {w w' : World} {a : Addr} {v : Value} (hb : Below w.heap.size w w') (h : w.cell? a = some v) : w'.cell? a = some v := by
  rw [← h]; exact hb.cell (World.block_lt_of_cell? _ _ h)

/-- The pieces, put together. -/
theorem made_mk {e : Ending} {W w1 : World} {lay : Int} {gr gm ga gc n cap ram : Nat} {f : Nat → Int} {T : TypeId} (h1 : RowsIn w1 lay gr gc) (h2 : Arr w1 .u8 5 gm n f) (h3 : Arr w1 .u8 5 ga ram (fun _ => 0))
    (nr : gr ≠ ga) (nm : gm ≠ ga) (nc : gc ≠ ga) (la : W.heap.size ≤ ga) (lr : W.heap.size ≤ gr) (lm : W.heap.size ≤ gm) (lc : W.heap.size ≤ gc) (hb : Below W.heap.size W w1) {gb : Nat} (hgb : gb = w1.heap.size) (he : e = .returned (.tuple #[.pointer (some ⟨gb, 0, none⟩), .int .i64 0])) :
    Made lay n ram f W e (w1.alloc (.cells #[.slice (some ⟨gr, 0, none⟩) 2 2, .slice (some ⟨gm, 0, none⟩) n cap, .slice (some ⟨ga, 0, none⟩) ram ram] T)) := by
  subst he hgb
  have h1' := h1.kept (belowA (Below.refl _ _) (.cells #[.slice (some ⟨gr, 0, none⟩) 2 2, .slice (some ⟨gm, 0, none⟩) n cap, .slice (some ⟨ga, 0, none⟩) ram ram] T))
  refine ⟨w1.heap.size, gr, gm, ga, gc, cap, rfl, ⟨⟨?_, ?_, ?_, h1'.r0, h1'.r3, h1'.r1, h1'.r2, h1'.r4, h1'.r5, h1'.c0⟩, h2.alloc _, h3.alloc _, ?_, nr, nm, fun _ => nc, hb.size, la, lr, lm, fun _ => lc⟩, belowA hb _⟩
  · simp [go_sem]
  · simp [go_sem]
  · simp [go_sem]
  · have := h3.lt; omega

set_option maxHeartbeats 2000000 in
theorem new_yes (lay : Int) (ram g n c : Nat) (f : Nat → Int) (w : World) (A : Arr w .u8 5 g n f) (h1 : 1 ≤ lay) (h2 : lay ≤ 3) (h3 : 1 ≤ n) (h4 : n ≤ 8388608) (h6 : ram ≤ 524288) :
    Calls Try.prog 23 #[cartV lay g n c ram] w (Made lay n ram f w) := by
  have q1 : decide (lay < 1) = false := decide_eq_false (by omega)
  have q2 : ((n : Int) == 0) = false := by simp; omega
  have q3 : decide ((n : Int) > 8388608) = false := decide_eq_false (by omega)
  have hmk := makeU8 ram (by omega)
  have A1 := Lib.hid A
  clear A
  go_enter Try.func23, Try.ntmps23
  try simp only [List.append_eq, List.cons_append, List.nil_append]
  go_wp2_with fail
  obtain ⟨W1, hW⟩ : ∃ W1, W1 = w.alloc (.cells #[.int .u8 lay, .int .u8 0, .slice (some ⟨g, 0, none⟩) n c, .int .i64 ram, .string ⟨#[]⟩, .int .u16 0, .bool false, .slice none 0 0] 60) := ⟨_, rfl⟩
  have k0 : W1.cell? ⟨w.heap.size, 0, none⟩ = some (.int .u8 lay) := by rw [hW]; simp [go_sem]
  have k2 : W1.cell? ⟨w.heap.size, 2, none⟩ = some (.slice (some ⟨g, 0, none⟩) n c) := by rw [hW]; simp [go_sem]
  have k3 : W1.cell? ⟨w.heap.size, 3, none⟩ = some (.int .i64 ram) := by rw [hW]; simp [go_sem]
  have kb : Below w.heap.size w W1 := by rw [hW]; exact belowA (Below.refl _ _) _
  have ks : Below W1.heap.size W1 W1 := Below.refl _ _
  have k4 : Arr W1 .u8 5 g n f := A1.out.kept kb
  rw [← hW]
  obtain ⟨B, hB⟩ : ∃ B, B = w.heap.size := ⟨_, rfl⟩
  have KB0 := Lib.hid kb
  have kz := kb.size
  rw [← hB] at k0 k2 k3 kb kz ⊢
  have KB := Lib.hid kb
  have HB := Lib.hid hB
  have K4 := Lib.hid k4
  clear hW kb hB k4
  go_region_held3 (fun w' => w'.cell? ⟨B, 0, none⟩ = some (.int .u8 lay) ∧ w'.cell? ⟨B, 2, none⟩ = some (.slice (some ⟨g, 0, none⟩) n c) ∧ w'.cell? ⟨B, 3, none⟩ = some (.int .i64 ram) ∧ Below W1.heap.size W1 w')
    (first
      | exact ⟨k0, k2, k3, belowD ks⟩
      | (go_split_ands; exact ⟨keepC hbR (by assumption), keepC hbR (by assumption), keepC hbR (by assumption), belowStep (by assumption) hbR⟩)
      | (go_split_ands; exact ⟨keepC hbC (by assumption), keepC hbC (by assumption), keepC hbC (by assumption), belowStep (by assumption) hbC⟩)
      | (go_split_ands; exact ⟨keepAlloc (by assumption) _, keepAlloc (by assumption) _, keepAlloc (by assumption) _, belowA (by assumption) _⟩))
    (first
      | (go_at_call 30; refine (rows_any lay _ (by omega)).mono ?_; rintro e w' ⟨gr, gc, rfl, hr1, hr2, hR, hbR⟩; have HR := Lib.hid hR; clear hR)
      | (go_at_call 25; refine (clone_any g n c f _ (K4.out.kept ?_) (by omega)).mono ?_; (go_split_ands; assumption); rintro e w' ⟨gm, cap, rfl, hc1, hC, hbC⟩; have HC := Lib.hid hC; clear hC))
  all_goals
    go_split_ands
    go_wp2
    go_ret2
    refine made_mk (T := 66) (HR.out.kept ?_) (HC.out.kept ?_) ((Arr.zero _ .u8 5 ram).kept ?_) ?_ ?_ ?_ ?_ ?_ ?_ ?_ (belowStep KB0.out ?_) ?_ rfl
    all_goals first
      | assumption
      | (simp; done)
      | ((repeat (first | exact Below.refl _ _ | apply belowA | apply belowD | refine belowStep ?_ hbC | refine belowStep ?_ hbR)); done)
      | (have g0 := HB.out; have g1 := HR.out.lr; have g2 := HR.out.lc; have g3 := HC.out.lt; have g4 := hbR.size; have g5 := hbC.size; have g7 := KB.out.size; simp at g1 g2 g3 g4 g5 hr1 hr2 hc1 ⊢; omega)
end Go.Proofs.Ytbfpacngphjkcaa
