/- A board in memory, and what Decode answers. -/
import Derived.Test.YtbfpacngphjkcaaBoardA
import Derived.RegionCalls
import Derived.Laws.EntriesVeiled
namespace Go.Proofs.Ytbfpacngphjkcaa
open Go.RowKit
set_option linter.unusedVariables false
set_option linter.unusedSimpArgs false

/-- The cells of a board: gb the struct, gr its rows, gm its rom, ga its memory, gc the variable that a closure captured. -/
structure Cells (w : World) (lay : Int) (gb gr gm ga gc n cap r : Nat) : Prop where
  b0 : w.cell? ⟨gb, 0, none⟩ = some (.slice (some ⟨gr, 0, none⟩) 2 2)
  b1 : w.cell? ⟨gb, 1, none⟩ = some (.slice (some ⟨gm, 0, none⟩) n cap)
  b2 : w.cell? ⟨gb, 2, none⟩ = some (.slice (some ⟨ga, 0, none⟩) r r)
  r0 : w.cell? ⟨gr, 0, none⟩ = some (.int .u8 2)
  r3 : w.cell? ⟨gr, 3, none⟩ = some (.int .u8 1)
  r1 : w.cell? ⟨gr, 1, none⟩ = some (.func (.func (if lay = 1 then 37 else 41)) #[] #[])
  r2 : w.cell? ⟨gr, 2, none⟩ = some (.func (.func (if lay = 1 then 38 else 43)) #[] #[])
  r4 : w.cell? ⟨gr, 4, none⟩ = some (.func (.func (if lay = 1 then 39 else 44)) #[] #[])
  r5 : w.cell? ⟨gr, 5, none⟩ = some (.func (.func (if lay = 1 then 40 else 45)) #[] (if lay = 1 then #[] else #[.pointer (some ⟨gc, 0, none⟩)]))
  c0 : lay ≠ 1 → w.cell? ⟨gc, 0, none⟩ = some (.int .i64 (if lay = 3 then 4194304 else 0))

/-- What stands at an address. -/
def more (lay : Int) : Int := if lay = 3 then 4194304 else 0
def spot (lay : Int) (n r : Nat) (b p : Int) : Int × Int :=
  if b = 126 ∨ b = 127 then (0, 0) else
  if lay = 1 then (if loRam b p = true ∧ 0 < r then (2, (b % 16 * 32768 + p) % r) else if loRom p = true then (1, place (b % 128 * 32768 + p - 32768).toNat n) else (0, 0))
  else (if hiRam b p = true ∧ 0 < r then (2, (b % 32 * 8192 + p - 24576) % r) else if hiRom b p = true then (1, place (hiAt (more lay) b p).toNat n) else (0, 0))

/-- The bank and the place of an address, as the walk reckons them. -/
theorem and255u (b : Int) (h0 : 0 ≤ b) (h1 : b ≤ 65535) : bits .and .u32 b 255 = b % 256 := by
  have := u32_and_nat b.toNat 255 (by omega) (by omega)
  rw [Int.toNat_of_nonneg h0, nat_mask8] at this
  rw [show ((255 : Nat) : Int) = 255 from rfl] at this
  rw [this]; omega
theorem and65535u (b : Int) (h0 : 0 ≤ b) (h1 : b ≤ 4294967295) : bits .and .u32 b 65535 = b % 65536 := by
  have := u32_and_nat b.toNat 65535 (by omega) (by omega)
  rw [Int.toNat_of_nonneg h0, nat_mask16] at this
  rw [show ((65535 : Nat) : Int) = 65535 from rfl] at this
  rw [this]; omega

theorem keepAlloc {w : World} {a : Addr} {v : Value} (h : w.cell? a = some v) (o : Obj) : (w.alloc o).cell? a = some v := (World.cell?_alloc_lt w o a (World.block_lt_of_cell? _ _ h)).trans h
theorem keepMore {w : World} {a : Addr} {v : Value} (h : w.cell? a = some v) (x : Ext) : (moreOf w x).cell? a = some v := (cell_more_old w x (World.block_lt_of_cell? _ _ h)).trans h


set_option maxRecDepth 100000 in
set_option maxHeartbeats 2000000 in
theorem dec_L1 (x b p : Int) (gb gr gm ga gc n cap r : Nat) (w : World) (C : Hid (Cells w 1 gb gr gm ga gc n cap r)) (x0 : 0 ≤ x) (x1 : x ≤ 4294967295) (hb : x / 65536 % 256 = b) (hp : x % 65536 = p) (n1 : (b == 126) = false) (n2 : (b == 127) = false) (ha : loRam b p = true) (hr : 0 < r) (hrm : r ≤ 524288) :
    Calls Try.prog 19 #[.pointer (some ⟨gb, 0, none⟩), .int .u32 x] w fun e w' => e = .returned (.agg #[.int .u8 2, .int .i64 ((b % 16 * 32768 + p) % r)]) ∧ Below w.heap.size w w' := by
  have b0 : 0 ≤ b ∧ b ≤ 255 := by omega
  have p0 : 0 ≤ p ∧ p ≤ 65535 := by omega
  obtain ⟨b0, b1⟩ := b0
  obtain ⟨p0, p1⟩ := p0
  have e1 := and255u (x / 65536) (by omega) (by omega)
  have e2 := and65535u x x0 x1
  rw [hb] at e1
  rw [hp] at e2
  clear hb hp
  have k0 := C.out.b0
  have k1 := C.out.b1
  have k2 := C.out.b2
  have l0 := World.block_lt_of_cell? _ _ k0
  have q0 := C.out.r0
  have q1 := C.out.r1
  have q2 := C.out.r2
  have q3 := C.out.r3
  have q4 := C.out.r4
  have q5 := C.out.r5
  have l1 := World.block_lt_of_cell? _ _ q0
  dsimp only at l0 l1
  simp only [↓reduceIte] at q1 q2 q4 q5
  have z : ((r : Int) == 0) = false := by simp; omega
  have HA := Lib.hid ha
  clear ha q3 q4 q5 k1
  go_enter Try.func19, Try.ntmps19
  go_wp2_with fail
  refine wp_loop_rounds 1 ?_
  rw [rounds_succ]
  go_wp2_with (first | (go_at_call 37; refine (lo1 b p _ b0 b1 p0 p1).mono ?_; rw [HA.out]; rintro e w' ⟨rfl, rfl⟩) | (go_at_call 38; refine (lo2 b p _ b0 b1 p0 p1).mono ?_; rintro e w' ⟨rfl, rfl⟩))
  go_region
  all_goals
    go_wp2
    exact bodyPost_ret (v := .agg #[.int .u8 2, .int .i64 ((b % 16 * 32768 + p) % r)]) (by simp [results, Try.results19, go_sem]) rfl ⟨rfl, by repeat (first | exact Below.refl _ _ | apply belowD | apply belowN | apply belowM | apply belowA)⟩

set_option maxRecDepth 100000 in
set_option maxHeartbeats 2000000 in
theorem dec_L2 (x b p : Int) (gb gr gm ga gc n cap r : Nat) (w : World) (C : Hid (Cells w 1 gb gr gm ga gc n cap r)) (x0 : 0 ≤ x) (x1 : x ≤ 4294967295) (hb : x / 65536 % 256 = b) (hp : x % 65536 = p) (n1 : (b == 126) = false) (n2 : (b == 127) = false) (ha : loRam b p = false ∨ (loRam b p = true ∧ r = 0)) (hrm : r ≤ 524288) (hm : loRom p = true) (s1 : 1 ≤ n) (s2 : n ≤ 8388608) (hge : 32768 ≤ p) :
    Calls Try.prog 19 #[.pointer (some ⟨gb, 0, none⟩), .int .u32 x] w fun e w' => e = .returned (.agg #[.int .u8 1, .int .i64 (place (b % 128 * 32768 + p - 32768).toNat n)]) ∧ Below w.heap.size w w' := by
  have b0 : 0 ≤ b ∧ b ≤ 255 := by omega
  have p0 : 0 ≤ p ∧ p ≤ 65535 := by omega
  obtain ⟨b0, b1⟩ := b0
  obtain ⟨p0, p1⟩ := p0
  have e1 := and255u (x / 65536) (by omega) (by omega)
  have e2 := and65535u x x0 x1
  rw [hb] at e1
  rw [hp] at e2
  clear hb hp
  have k0 := C.out.b0
  have k1 := C.out.b1
  have k2 := C.out.b2
  have l0 := World.block_lt_of_cell? _ _ k0
  have q0 := C.out.r0
  have q1 := C.out.r1
  have q2 := C.out.r2
  have q3 := C.out.r3
  have q4 := C.out.r4
  have q5 := C.out.r5
  have l1 := World.block_lt_of_cell? _ _ q0
  dsimp only at l0 l1
  simp only [↓reduceIte] at q1 q2 q4 q5
  have HM := Lib.hid hm
  clear hm
  have aN : 0 ≤ b % 128 * 32768 + p - 32768 ∧ b % 128 * 32768 + p - 32768 ≤ 1073741824 := by omega
  obtain ⟨A, hA⟩ : ∃ A : Nat, b % 128 * 32768 + p - 32768 = (A : Int) := ⟨(b % 128 * 32768 + p - 32768).toNat, by omega⟩
  have hA2 : A ≤ 1073741824 := by omega
  rw [hA, Int.toNat_natCast]
  have HAA := Lib.hid hA
  clear hA aN
  rcases ha with ha | ⟨ha, rfl⟩
  all_goals
    have HA := Lib.hid ha
    clear ha
    go_enter Try.func19, Try.ntmps19
    go_wp2_with fail
    refine wp_loop_rounds 2 ?_
    rw [rounds_succ]
    go_wp2_with (first | (go_at_call 37; refine (lo1 b p _ b0 b1 p0 p1).mono ?_; rw [HA.out]; rintro e w' ⟨rfl, rfl⟩) | (go_at_call 38; refine (lo2 b p _ b0 b1 p0 p1).mono ?_; rintro e w' ⟨rfl, rfl⟩))
    rw [rounds_succ]
    go_wp2_with (first | (go_at_call 39; refine (lo3 b p _ b0 b1 p0 p1).mono ?_; rw [HM.out]; rintro e w' ⟨rfl, rfl⟩) | (go_at_call 40; refine (lo4 b p _ b0 b1 p0 p1 hge).mono ?_; rw [HAA.out]; rintro e w' ⟨rfl, rfl⟩))
    go_region_with (go_at_call 26; refine (place_any A n _ s1 s2 hA2).mono ?_; rintro e w' ⟨rfl, rfl⟩)
    all_goals
      go_wp2
      exact bodyPost_ret (v := .agg #[.int .u8 1, .int .i64 (place A n)]) (by simp [results, Try.results19, go_sem]) rfl ⟨rfl, by repeat (first | exact Below.refl _ _ | apply belowD | apply belowN | apply belowM | apply belowA)⟩

set_option maxRecDepth 100000 in
set_option maxHeartbeats 2000000 in
theorem dec_L3 (x b p : Int) (gb gr gm ga gc n cap r : Nat) (w : World) (C : Hid (Cells w 1 gb gr gm ga gc n cap r)) (x0 : 0 ≤ x) (x1 : x ≤ 4294967295) (hb : x / 65536 % 256 = b) (hp : x % 65536 = p) (n1 : (b == 126) = false) (n2 : (b == 127) = false) (ha : loRam b p = false ∨ (loRam b p = true ∧ r = 0)) (hrm : r ≤ 524288) (hm : loRom p = false) :
    Calls Try.prog 19 #[.pointer (some ⟨gb, 0, none⟩), .int .u32 x] w fun e w' => e = .returned (.agg #[.int .u8 0, .int .i64 0]) ∧ Below w.heap.size w w' := by
  have b0 : 0 ≤ b ∧ b ≤ 255 := by omega
  have p0 : 0 ≤ p ∧ p ≤ 65535 := by omega
  obtain ⟨b0, b1⟩ := b0
  obtain ⟨p0, p1⟩ := p0
  have e1 := and255u (x / 65536) (by omega) (by omega)
  have e2 := and65535u x x0 x1
  rw [hb] at e1
  rw [hp] at e2
  clear hb hp
  have k0 := C.out.b0
  have k1 := C.out.b1
  have k2 := C.out.b2
  have l0 := World.block_lt_of_cell? _ _ k0
  have q0 := C.out.r0
  have q1 := C.out.r1
  have q2 := C.out.r2
  have q3 := C.out.r3
  have q4 := C.out.r4
  have q5 := C.out.r5
  have l1 := World.block_lt_of_cell? _ _ q0
  dsimp only at l0 l1
  simp only [↓reduceIte] at q1 q2 q4 q5
  have HM := Lib.hid hm
  clear hm k1
  rcases ha with ha | ⟨ha, rfl⟩
  all_goals
    have HA := Lib.hid ha
    clear ha
    go_enter Try.func19, Try.ntmps19
    go_wp2_with fail
    refine wp_loop_rounds 3 ?_
    rw [rounds_succ]
    go_wp2_with (first | (go_at_call 37; refine (lo1 b p _ b0 b1 p0 p1).mono ?_; rw [HA.out]; rintro e w' ⟨rfl, rfl⟩) | (go_at_call 38; refine (lo2 b p _ b0 b1 p0 p1).mono ?_; rintro e w' ⟨rfl, rfl⟩))
    rw [rounds_succ]
    go_wp2_with (first | (go_at_call 39; refine (lo3 b p _ b0 b1 p0 p1).mono ?_; rw [HM.out]; rintro e w' ⟨rfl, rfl⟩))
    rw [rounds_succ]
    go_wp2_with fail
    exact bodyPost_ret (v := .agg #[.int .u8 0, .int .i64 0]) (by simp [results, Try.results19, go_sem]) rfl ⟨rfl, by repeat (first | exact Below.refl _ _ | apply belowD | apply belowN | apply belowM | apply belowA)⟩

end Go.Proofs.Ytbfpacngphjkcaa

