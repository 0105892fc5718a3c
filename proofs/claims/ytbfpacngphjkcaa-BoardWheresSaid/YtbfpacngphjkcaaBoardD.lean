/- A board is made: rows, New; the document's New. -/
import Derived.Test.YtbfpacngphjkcaaBoardB
import Derived.Test.YtbfpacngphjkcaaBytes
import Derived.Test.YtbfpacngphjkcaaShelf
namespace Go.Proofs.Ytbfpacngphjkcaa
open Go.RowKit
set_option linter.unusedVariables false
set_option linter.unusedSimpArgs false

theorem makeU8 (n : Nat) (hn : n ≤ 140737488355328) (w : World) : (Instr.makeSlice 24 (.int .i64 n) (.int .i64 n)).run Try.prog w = .ok (.slice (some ⟨w.heap.size, 0, none⟩) n n) (w.alloc (.cells (zeros .u8 n) 5)) :=
  make_zeros Try.underlying24 infoU8 n (by omega) hn w

/-- slices.Clone of bytes. -/
def Cloned (W : World) (n : Nat) (f : Nat → Int) (e : Ending) (w' : World) : Prop :=
  ∃ g cap, e = .returned (.slice (some ⟨g, 0, none⟩) n cap) ∧ W.heap.size ≤ g ∧ Arr w' .u8 5 g n f ∧ Below W.heap.size W w'
theorem clone_any (g n c : Nat) (f : Nat → Int) (w : World) (A : Arr w .u8 5 g n f) (hn : n ≤ 140737488355328) :
    Calls Try.prog 25 #[.slice (some ⟨g, 0, none⟩) n c] w (Cloned w n f) := by
  obtain ⟨i0, hi, hz0, hz1, hz2⟩ := info_parts infoU8
  refine (Try.slices_Clone i0 (.int .u8 0) 1 1 hi hz0 hz1 hz2 rfl (by omega) (fun w => by kernel_rfl) g 0 n c ((List.range n).map fun j => .int .u8 (f j)) w (by simp) (by unfold maxLen; omega) (by omega) ?_ ?_).mono ?_
  · intro j u hj
    rw [List.getElem?_map] at hj
    by_cases h : j < n
    · rw [List.getElem?_range h] at hj
      simp only [Option.map_some, Option.some.injEq] at hj
      subst hj
      rw [Nat.zero_add]
      exact A.cell h
    · rw [List.getElem?_eq_none (by simpa using h)] at hj
      cases hj
  · intro u hu
    simp only [List.mem_map] at hu
    obtain ⟨j, _, rfl⟩ := hu
    rfl
  · rintro e w' ⟨v', rfl, hown, hne, hb⟩
    obtain ⟨g', cap, rfl, hg, ha⟩ := Arr.owned hne hown
    exact ⟨g', cap, rfl, hg, ha, hb⟩

/-- The rows of a layout in memory. -/
structure RowsIn (w : World) (lay : Int) (gr gc : Nat) : Prop where
  r0 : w.cell? ⟨gr, 0, none⟩ = some (.int .u8 2)
  r3 : w.cell? ⟨gr, 3, none⟩ = some (.int .u8 1)
  r1 : w.cell? ⟨gr, 1, none⟩ = some (.func (.func (if lay = 1 then 37 else 41)) #[] #[])
  r2 : w.cell? ⟨gr, 2, none⟩ = some (.func (.func (if lay = 1 then 38 else 43)) #[] #[])
  r4 : w.cell? ⟨gr, 4, none⟩ = some (.func (.func (if lay = 1 then 39 else 44)) #[] #[])
  r5 : w.cell? ⟨gr, 5, none⟩ = some (.func (.func (if lay = 1 then 40 else 45)) #[] (if lay = 1 then #[] else #[.pointer (some ⟨gc, 0, none⟩)]))
  c0 : lay ≠ 1 → w.cell? ⟨gc, 0, none⟩ = some (.int .i64 (if lay = 3 then 4194304 else 0))
  lr : gr < w.heap.size
  lc : gc < w.heap.size
theorem RowsIn.kept {w w' : World} {lay : Int} {gr gc : Nat} (h : RowsIn w lay gr gc) (hb : Below w.heap.size w w') : RowsIn w' lay gr gc where
  r0 := (hb.cell (p := ⟨gr, 0, none⟩) h.lr).trans h.r0
  r1 := (hb.cell (p := ⟨gr, 1, none⟩) h.lr).trans h.r1
  r2 := (hb.cell (p := ⟨gr, 2, none⟩) h.lr).trans h.r2
  r3 := (hb.cell (p := ⟨gr, 3, none⟩) h.lr).trans h.r3
  r4 := (hb.cell (p := ⟨gr, 4, none⟩) h.lr).trans h.r4
  r5 := (hb.cell (p := ⟨gr, 5, none⟩) h.lr).trans h.r5
  c0 := fun k => (hb.cell (p := ⟨gc, 0, none⟩) h.lc).trans (h.c0 k)
  lr := Nat.lt_of_lt_of_le h.lr hb.size
  lc := Nat.lt_of_lt_of_le h.lc hb.size
def RowsOut (lay : Int) (W : World) (e : Ending) (w' : World) : Prop :=
  ∃ gr gc, e = .returned (.slice (some ⟨gr, 0, none⟩) 2 2) ∧ W.heap.size ≤ gr ∧ W.heap.size ≤ gc ∧ RowsIn w' lay gr gc ∧ Below W.heap.size W w'

theorem low_any (w : World) : Calls Try.prog 33 #[] w (RowsOut 1 w) := by
  go_enter Try.func33, Try.ntmps33
  go_wp2
  go_ret
  refine ⟨w.heap.size, w.heap.size, rfl, by omega, by omega, ⟨?_, ?_, ?_, ?_, ?_, ?_, ?_, ?_, ?_⟩, ?_⟩
  all_goals first | (exact belowA (Below.refl _ _) _) | (simp [go_sem]; done)
theorem high_any (lay : Int) (w : World) (h : lay = 2 ∨ lay = 3) : Calls Try.prog 34 #[.int .i64 (if lay = 3 then 4194304 else 0)] w (RowsOut lay w) := by
  obtain ⟨m, hm⟩ : ∃ m : Int, (if lay = 3 then (4194304 : Int) else 0) = m := ⟨_, rfl⟩
  rw [hm]
  have M := Lib.hid hm
  have L := Lib.hid h
  clear h hm
  go_enter Try.func34, Try.ntmps34
  go_wp2
  go_ret
  refine ⟨w.heap.size + 1, w.heap.size, rfl, by omega, by omega, ⟨?_, ?_, ?_, ?_, ?_, ?_, ?_, ?_, ?_⟩, ?_⟩
  all_goals have L1 : lay ≠ 1 := by have := L.out; omega
  all_goals first | (exact belowA (belowA (Below.refl _ _) _) _) | (simp [go_sem, L1]; done) | (intro _; rw [M.out]; simp [go_sem])

theorem rows_any (lay : Int) (w : World) (h : lay = 1 ∨ lay = 2 ∨ lay = 3) : Calls Try.prog 30 #[.int .u8 lay] w (RowsOut lay w) := by
  rcases h with rfl | rfl | rfl
  · go_enter Try.func30, Try.ntmps30
    go_wp2_with fail
    refine (low_any _).mono ?_
    rintro e w' ⟨gr, gc, rfl, h1, h2, h3, h4⟩
    have H := Lib.hid h3
    clear h3
    go_wp2_with fail
    go_ret
    exact ⟨gr, gc, rfl, h1, h2, H.out, h4⟩
  · go_enter Try.func30, Try.ntmps30
    go_wp2_with fail
    refine (high_any 2 _ (Or.inl rfl)).mono ?_
    rintro e w' ⟨gr, gc, rfl, h1, h2, h3, h4⟩
    have H := Lib.hid h3
    clear h3
    go_wp2_with fail
    go_ret
    exact ⟨gr, gc, rfl, h1, h2, H.out, h4⟩
  · go_enter Try.func30, Try.ntmps30
    go_wp2_with fail
    refine (high_any 3 _ (Or.inr rfl)).mono ?_
    rintro e w' ⟨gr, gc, rfl, h1, h2, h3, h4⟩
    have H := Lib.hid h3
    clear h3
    go_wp2_with fail
    go_ret
    exact ⟨gr, gc, rfl, h1, h2, H.out, h4⟩

abbrev cartV (lay : Int) (g n c : Nat) (ram : Int) : Value := .agg #[.int .u8 lay, .int .u8 0, .slice (some ⟨g, 0, none⟩) n c, .int .i64 ram, .string ⟨#[]⟩, .int .u16 0, .bool false, .slice none 0 0]

/-- Can such a board be? -/
def canB (lay : Int) (n : Nat) (ram : Int) : Bool := decide (1 ≤ lay ∧ lay ≤ 3 ∧ 1 ≤ n ∧ n ≤ 8388608 ∧ 0 ≤ ram ∧ ram ≤ 524288)

theorem rnew_yes (lay ram : Int) (g n c : Nat) (w : World) (h1 : 1 ≤ lay) (h2 : lay ≤ 3) (h3 : 1 ≤ n) (h4 : n ≤ 8388608) (h5 : 0 ≤ ram) (h6 : ram ≤ 524288) :
    Calls Try.prog 24 #[cartV lay g n c ram] w fun e w' => e = .returned (.int .i64 0) ∧ Below w.heap.size w w' := by
  have q1 : decide (lay < 1) = false := decide_eq_false (by omega)
  have q2 : ((n : Int) == 0) = false := by simp; omega
  have q3 : decide ((n : Int) > 8388608) = false := decide_eq_false (by omega)
  go_enter Try.func24, Try.ntmps24
  try simp only [List.append_eq, List.cons_append, List.nil_append]
  go_wp2
  go_ret
  exact ⟨rfl, by repeat (first | exact Below.refl _ _ | apply belowD | apply belowN | apply belowM | apply belowA)⟩

theorem rnew_no (lay ram : Int) (g n c : Nat) (w : World) (l0 : 0 ≤ lay) (h : lay < 1 ∨ (1 ≤ lay ∧ 3 < lay) ∨ (1 ≤ lay ∧ lay ≤ 3 ∧ n = 0) ∨ (1 ≤ lay ∧ lay ≤ 3 ∧ 1 ≤ n ∧ 8388608 < n) ∨ (1 ≤ lay ∧ lay ≤ 3 ∧ 1 ≤ n ∧ n ≤ 8388608 ∧ ram < 0) ∨ (1 ≤ lay ∧ lay ≤ 3 ∧ 1 ≤ n ∧ n ≤ 8388608 ∧ 0 ≤ ram ∧ 524288 < ram)) :
    Calls Try.prog 24 #[cartV lay g n c ram] w fun e w' => e = .returned (.int .i64 2) ∧ Below w.heap.size w w' := by
  have q2 : 1 ≤ n → ((n : Int) == 0) = false := fun _ => by simp; omega
  rcases h with h | ⟨a1, h⟩ | ⟨a1, a2, rfl⟩ | ⟨a1, a2, a3, h⟩ | ⟨a1, a2, a3, a4, h⟩ | ⟨a1, a2, a3, a4, a5, h⟩
  all_goals
    try have q2 := q2 a3
    go_enter Try.func24, Try.ntmps24
    try simp only [List.append_eq, List.cons_append, List.nil_append]
    go_wp2
    go_ret
    exact ⟨rfl, by repeat (first | exact Below.refl _ _ | apply belowD | apply belowN | apply belowM | apply belowA)⟩

theorem new_no (lay ram : Int) (g n c : Nat) (w : World) (l0 : 0 ≤ lay) (h : lay < 1 ∨ (1 ≤ lay ∧ 3 < lay) ∨ (1 ≤ lay ∧ lay ≤ 3 ∧ n = 0) ∨ (1 ≤ lay ∧ lay ≤ 3 ∧ 1 ≤ n ∧ 8388608 < n) ∨ (1 ≤ lay ∧ lay ≤ 3 ∧ 1 ≤ n ∧ n ≤ 8388608 ∧ ram < 0) ∨ (1 ≤ lay ∧ lay ≤ 3 ∧ 1 ≤ n ∧ n ≤ 8388608 ∧ 0 ≤ ram ∧ 524288 < ram)) :
    Calls Try.prog 23 #[cartV lay g n c ram] w fun e w' => e = .returned (.tuple #[.pointer none, .int .i64 2]) ∧ Below w.heap.size w w' := by
  have q2 : 1 ≤ n → ((n : Int) == 0) = false := fun _ => by simp; omega
  rcases h with h | ⟨a1, h⟩ | ⟨a1, a2, rfl⟩ | ⟨a1, a2, a3, h⟩ | ⟨a1, a2, a3, a4, h⟩ | ⟨a1, a2, a3, a4, a5, h⟩
  all_goals
    try have q2 := q2 a3
    go_enter Try.func23, Try.ntmps23
    try simp only [List.append_eq, List.cons_append, List.nil_append]
    go_wp2
    go_ret2
    exact ⟨rfl, by repeat (first | exact Below.refl _ _ | apply belowD | apply belowN | apply belowM | apply belowA)⟩
end Go.Proofs.Ytbfpacngphjkcaa
