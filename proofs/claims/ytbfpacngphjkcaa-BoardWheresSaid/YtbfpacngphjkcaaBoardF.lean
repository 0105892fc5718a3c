/- Read, Write, Ram, SetRam of a board. -/
import Derived.Test.YtbfpacngphjkcaaBoardE
import Derived.Test.YtbfpacngphjkcaaBoardT
import Derived.Laws.CopyOwn
namespace Go.Proofs.Ytbfpacngphjkcaa
open Go.RowKit
set_option linter.unusedVariables false
set_option linter.unusedSimpArgs false

theorem BoardIn.lts {w : World} {B : Nat} {lay : Int} {gb gr gm ga gc n cap r : Nat} {f h : Nat → Int} (b : BoardIn w B lay gb gr gm ga gc n cap r f h) {g : Nat} (hg : w.heap.size ≤ g) :
    gb ≠ g ∧ gr ≠ g ∧ gm ≠ g ∧ ga ≠ g ∧ (lay ≠ 1 → gc ≠ g) := by
  have h1 : gb < w.heap.size := World.block_lt_of_cell? _ _ b.cells.b0
  have h2 : gr < w.heap.size := World.block_lt_of_cell? _ _ b.cells.r0
  have h3 := b.rom.lt
  have h4 := b.ram.lt
  refine ⟨by omega, by omega, by omega, by omega, fun hl => ?_⟩
  have h5 : gc < w.heap.size := World.block_lt_of_cell? _ _ (b.cells.c0 hl)
  omega
/-- A block that is none of the board's has changed. -/
theorem BoardIn.other {w w' : World} {B : Nat} {lay : Int} {gb gr gm ga gc n cap r g : Nat} {f h : Nat → Int} (b : BoardIn w B lay gb gr gm ga gc n cap r f h) (k : Upd w g w') (hg : gb ≠ g ∧ gr ≠ g ∧ gm ≠ g ∧ ga ≠ g ∧ (lay ≠ 1 → gc ≠ g)) : BoardIn w' B lay gb gr gm ga gc n cap r f h :=
  { b with
    cells := b.cells.keep fun c o v hc hv => by
      have hn : c ≠ g := by
        rcases hc with rfl | rfl | ⟨hl, rfl⟩
        · exact hg.1
        · exact hg.2.1
        · exact hg.2.2.2.2 hl
      rw [← hv]; exact k.cell (p := ⟨c, o, none⟩) (World.block_lt_of_cell? _ _ hv) hn
    rom := k.arr b.rom hg.2.2.1
    ram := k.arr b.ram hg.2.2.2.1 }

/-- Which byte is read where this stands. -/
def byteOf (f h : Nat → Int) (s : Int × Int) : Int := if s.1 = 1 then f s.2.toNat else if s.1 = 2 then h s.2.toNat else 0
abbrev spotAt (lay : Int) (n r : Nat) (x : Int) : Int × Int := spot lay n r (x / 65536 % 256) (x % 65536)
theorem spotAt_is (lay : Int) (n r : Nat) (x : Int) (s1 : 1 ≤ n) (s2 : n ≤ 8388608) :
    (spotAt lay n r x = (0, 0)) ∨ (∃ k : Nat, k < n ∧ spotAt lay n r x = (1, (k : Int))) ∨ (∃ k : Nat, k < r ∧ spotAt lay n r x = (2, (k : Int))) :=
  spot_is lay n r _ _ (by omega) (by omega) (by omega) (by omega) s1 s2

set_option maxHeartbeats 1000000 in
theorem read_any (x lay : Int) (B gb gr gm ga gc n cap r : Nat) (f h : Nat → Int) (w : World) (b : BoardIn w B lay gb gr gm ga gc n cap r f h) (x0 : 0 ≤ x) (x1 : x ≤ 4294967295) (hrm : r ≤ 524288) (s1 : 1 ≤ n) (s2 : n ≤ 8388608) :
    Calls Try.prog 17 #[.pointer (some ⟨gb, 0, none⟩), .int .u32 x] w fun e w' =>
      e = .returned (.tuple #[.int .u8 (byteOf f h (spotAt lay n r x)), .bool (decide ((spotAt lay n r x).1 ≠ 0))]) ∧ Below w.heap.size w w' := by
  have d := dec_any x lay gb gr gm ga gc n cap r w b.cells x0 x1 hrm s1 s2
  have hs := spotAt_is lay n r x s1 s2
  have b1 := b.cells.b1
  have b2 := b.cells.b2
  have lb := World.block_lt_of_cell? _ _ b1
  have lm := b.rom.lt
  have la := b.ram.lt
  simp only at lb
  rcases hs with e | ⟨k, hk, e⟩ | ⟨k, hk, e⟩
  · unfold spotAt at e ⊢
    rw [e] at d ⊢
    have D := Lib.hid d
    clear d e
    go_enter Try.func17, Try.ntmps17
    go_wp2_with (go_at_call 19; refine D.out.mono ?_; rintro e w' ⟨rfl, hb⟩; obtain ⟨x1, rfl⟩ := more_of_below hb; clear hb)
    go_ret2
    exact ⟨rfl, by repeat (first | exact Below.refl _ _ | apply belowD | apply belowN | apply belowM | apply belowA)⟩
  · have hc := b.rom.cell hk
    have q1 : (0 : Int) ≤ ↑k := by omega
    have q2 : (k : Int) < ↑n := by omega
    obtain ⟨y, hy⟩ : ∃ y, f k = y := ⟨_, rfl⟩
    rw [hy] at hc
    have HY := Lib.hid hy
    unfold spotAt at e ⊢
    rw [e] at d ⊢
    have D := Lib.hid d
    clear d e hy b
    go_enter Try.func17, Try.ntmps17
    go_wp2_with (go_at_call 19; refine D.out.mono ?_; rintro e w' ⟨rfl, hb⟩; obtain ⟨x1, rfl⟩ := more_of_below hb; clear hb)
    go_quiet (fail)
    go_wp2
    go_ret2
    exact ⟨by simp [byteOf, HY.out], by repeat (first | exact Below.refl _ _ | apply belowD | apply belowN | apply belowM | apply belowA)⟩
  · have hc := b.ram.cell hk
    have q1 : (0 : Int) ≤ ↑k := by omega
    have q2 : (k : Int) < ↑r := by omega
    obtain ⟨y, hy⟩ : ∃ y, h k = y := ⟨_, rfl⟩
    rw [hy] at hc
    have HY := Lib.hid hy
    unfold spotAt at e ⊢
    rw [e] at d ⊢
    have D := Lib.hid d
    clear d e hy b
    go_enter Try.func17, Try.ntmps17
    go_wp2_with (go_at_call 19; refine D.out.mono ?_; rintro e w' ⟨rfl, hb⟩; obtain ⟨x1, rfl⟩ := more_of_below hb; clear hb)
    go_quiet (fail)
    go_wp2
    go_ret2
    exact ⟨by simp [byteOf, HY.out], by repeat (first | exact Below.refl _ _ | apply belowD | apply belowN | apply belowM | apply belowA)⟩

/-- The memory behind a write. -/
def putOf (h : Nat → Int) (s : Int × Int) (v : Int) : Nat → Int := if s.1 = 2 then fun j => if j = s.2.toNat then v else h j else h
def Wrote (lay : Int) (ga n r : Nat) (h : Nat → Int) (x v : Int) (W : World) (e : Ending) (w' : World) : Prop :=
  e = .returned (.bool (decide ((spotAt lay n r x).1 ≠ 0))) ∧ Arr w' .u8 5 ga r (putOf h (spotAt lay n r x) v) ∧ Upd W ga w'

set_option maxHeartbeats 1000000 in
theorem write_any (x v lay : Int) (B gb gr gm ga gc n cap r : Nat) (f h : Nat → Int) (w : World) (b : BoardIn w B lay gb gr gm ga gc n cap r f h) (x0 : 0 ≤ x) (x1 : x ≤ 4294967295) (hrm : r ≤ 524288) (s1 : 1 ≤ n) (s2 : n ≤ 8388608) :
    Calls Try.prog 18 #[.pointer (some ⟨gb, 0, none⟩), .int .u32 x, .int .u8 v] w (Wrote lay ga n r h x v w) := by
  have d := dec_any x lay gb gr gm ga gc n cap r w b.cells x0 x1 hrm s1 s2
  have hs := spotAt_is lay n r x s1 s2
  have b2 := b.cells.b2
  have lb := World.block_lt_of_cell? _ _ b2
  have la := b.ram.lt
  have hra := Lib.hid b.ram
  simp only at lb
  rcases hs with e | ⟨k, hk, e⟩ | ⟨k, hk, e⟩
  · unfold Wrote
    unfold spotAt at e ⊢
    rw [e] at d ⊢
    have D := Lib.hid d
    clear d e
    go_enter Try.func18, Try.ntmps18
    go_wp2_with (go_at_call 19; refine D.out.mono ?_; rintro e w' ⟨rfl, hb⟩; obtain ⟨x1, rfl⟩ := more_of_below hb; clear hb)
    go_ret
    exact ⟨rfl, (hra.out.more _).alloc _, (Upd.ofBelow (below_more _) _).alloc _⟩
  · unfold Wrote
    unfold spotAt at e ⊢
    rw [e] at d ⊢
    have D := Lib.hid d
    clear d e
    go_enter Try.func18, Try.ntmps18
    go_wp2_with (go_at_call 19; refine D.out.mono ?_; rintro e w' ⟨rfl, hb⟩; obtain ⟨x1, rfl⟩ := more_of_below hb; clear hb)
    go_ret
    exact ⟨rfl, (hra.out.more _).alloc _, (Upd.ofBelow (below_more _) _).alloc _⟩
  · have hc := b.ram.cell hk
    have hf := b.ram.frozen k
    have q1 : (0 : Int) ≤ ↑k := by omega
    have q2 : (k : Int) < ↑r := by omega
    obtain ⟨y, hy⟩ : ∃ y, h k = y := ⟨_, rfl⟩
    rw [hy] at hc
    have HY := Lib.hid hy
    have HK := Lib.hid hk
    have nba := b.nb
    unfold Wrote
    unfold spotAt at e ⊢
    rw [e] at d ⊢
    have D := Lib.hid d
    clear d e hy b
    go_enter Try.func18, Try.ntmps18
    go_wp2_with (go_at_call 19; refine D.out.mono ?_; rintro e w' ⟨rfl, hb⟩; obtain ⟨x1, rfl⟩ := more_of_below hb; clear hb)
    obtain ⟨W2, hW⟩ : ∃ W2, W2 = (moreOf w x1).alloc (.cells #[.int .u8 2, .int .i64 k] 40) := ⟨_, rfl⟩
    obtain ⟨s0, hs0⟩ : ∃ s0, s0 = w.heap.size + x1.objs.size := ⟨_, rfl⟩
    have k1 : W2.cell? ⟨s0, 1, none⟩ = some (.int .i64 k) := by rw [hW, hs0]; simp [go_sem]
    have k0 : W2.cell? ⟨s0, 0, none⟩ = some (.int .u8 2) := by rw [hW, hs0]; simp [go_sem]
    have kb : Below w.heap.size w W2 := by rw [hW]; exact belowA (belowM (Below.refl _ _) _) _
    have k2 := keepC kb b2
    have k3 := keepC kb hc
    have k4 : W2.frozen? ⟨ga, k, none⟩ = false := by rw [← hf]; exact kb.frozen (p := ⟨ga, k, none⟩) la
    rw [← hW, ← hs0]
    have KB := Lib.hid kb
    have n1 : gb ≠ ga := nba
    have n2 : s0 ≠ ga := by omega
    clear hW hs0 kb hc hf b2
    go_region_held3 (fun w' => w'.cell? ⟨gb, 2, none⟩ = some (.slice (some ⟨ga, 0, none⟩) r r) ∧ w'.cell? ⟨s0, 1, none⟩ = some (.int .i64 k) ∧ w'.cell? ⟨s0, 0, none⟩ = some (.int .u8 2)) (first | exact ⟨k2, k1, k0⟩ | (go_split_ands; exact ⟨keepSet (by assumption) n1, keepSet (by assumption) n2, keepSet (by assumption) n2⟩)) (first | fail)
    go_split_ands
    go_wp2
    go_ret
    exact ⟨rfl, by unfold putOf; exact ((hra.out.kept KB.out).drew.set HK.out v), ((Upd.ofBelow KB.out _).drew.set _ _)⟩

theorem ram_any (lay : Int) (B gb gr gm ga gc n cap r : Nat) (f h : Nat → Int) (w : World) (b : BoardIn w B lay gb gr gm ga gc n cap r f h) (hrm : r ≤ 524288) :
    Calls Try.prog 16 #[.pointer (some ⟨gb, 0, none⟩)] w (Cloned w r h) := by
  have b2 := b.cells.b2
  have A := Lib.hid b.ram
  clear b
  go_enter Try.func16, Try.ntmps16
  go_wp2_with fail
  refine (clone_any ga r r h _ A.out (by omega)).mono ?_
  rintro e w' ⟨g, c, rfl, h1, h2, h3⟩
  have H2 := Lib.hid h2
  clear h2
  go_wp2_with fail
  go_ret
  exact ⟨g, c, rfl, h1, H2.out, h3⟩

theorem setRam_no (v : Value) (m : Nat) (u : Nat → Int) (lay : Int) (B gb gr gm ga gc n cap r : Nat) (f h : Nat → Int) (w : World) (b : BoardIn w B lay gb gr gm ga gc n cap r f h) (S : Sees w .u8 v m u) (hne : m ≠ r) :
    Calls Try.prog 13 #[.pointer (some ⟨gb, 0, none⟩), v] w fun e w' => e = .returned (.int .i64 2) ∧ w = w' := by
  obtain ⟨ao, c, rfl, hs⟩ := S
  have b2 := b.cells.b2
  have q : ((m : Int) != (r : Int)) = true := by simp; omega
  clear b hs hne
  go_enter Try.func13, Try.ntmps13
  go_wp2
  go_ret
  exact ⟨rfl, rfl⟩

theorem setRam_yes (v : Value) (u : Nat → Int) (lay : Int) (B gb gr gm ga gc n cap r : Nat) (f h : Nat → Int) (w : World) (b : BoardIn w B lay gb gr gm ga gc n cap r f h) (S : Sees w .u8 v r u) (hrm : r ≤ 524288) :
    Calls Try.prog 13 #[.pointer (some ⟨gb, 0, none⟩), v] w fun e w' => e = .returned (.int .i64 0) ∧ Arr w' .u8 5 ga r u ∧ Upd w ga w' := by
  obtain ⟨ao, c, rfl, hs⟩ := S
  have b2 := b.cells.b2
  have HA := Lib.hid b.ram
  have Z := Lib.hid hs
  clear b hs
  by_cases h0 : r = 0
  · subst h0
    go_enter Try.func13, Try.ntmps13
    go_wp2_with (refine wpList_copy_nothing rfl (.tmp 20) (.tmp 21) 24 24 rfl 5 Try.underlying24 (by kernel_rfl) _ _ _ _ _ _ rfl rfl rfl ?_)
    go_ret
    exact ⟨rfl, HA.out.congr (fun j hj => absurd hj (Nat.not_lt_zero _)), Upd.refl _ _⟩
  · obtain ⟨bb, off, rfl, hc⟩ := Z.out.resolve_left h0
    obtain ⟨cs, hcs, hsz, hat⟩ := HA.out
    have hl : ((List.range r).map fun j => (Value.int .u8 (u j))).length = r := by simp
    have HC := Lib.hid hc
    have HCS := Lib.hid hcs
    clear hc hcs hat
    go_enter Try.func13, Try.ntmps13
    go_wp2_with (refine wpList_copy_own rfl (.tmp 20) (.tmp 21) 24 24 rfl 5 Try.underlying24 (by kernel_rfl) ga 0 r r ⟨bb, off, none⟩ r c rfl rfl cs 5 HCS.out ((List.range r).map fun j => (Value.int .u8 (u j))) ?c1 ?c2 ?c3 ?c4 ?_)
    case c1 => simp
    case c2 =>
      intro j x hj
      rw [List.getElem?_map] at hj
      by_cases h : j < r
      · rw [List.getElem?_range h] at hj
        simp only [Option.map_some, Option.some.injEq] at hj
        subst hj
        have e : (⟨bb, off, none⟩ : Addr).add j = ⟨bb, off + j, none⟩ := by
          unfold Addr.add
          split
          · subst j; rfl
          · rfl
        rw [e]
        exact HC.out j h
      · rw [List.getElem?_eq_none (by simpa using h)] at hj
        cases hj
    case c3 => simpa using hsz
    case c4 =>
      intro x hx
      simp only [List.mem_map] at hx
      obtain ⟨j, _, rfl⟩ := hx
      rfl
    go_wp2
    go_ret
    refine ⟨rfl, ⟨_, setRow_heap _ _ _ _ _ _ HCS.out, by simp, ?_⟩, ⟨rfl, rfl, rfl, by simp [World.setRow], fun i _ hi => setRow_other _ _ _ _ hi⟩⟩
    intro j hj
    simp only [List.take_zero, List.nil_append, List.getElem?_toArray, Nat.zero_add, hl]
    rw [List.getElem?_append_left (by rw [hl]; exact hj)]
    simp [hj]
end Go.Proofs.Ytbfpacngphjkcaa
