/- two. -/
import Derived.Test.YtfigepnpegnhkaaClkN
namespace Go.Proofs.Ytfigepnpegnhkaa
open Go.RowKit
set_option linter.unusedVariables false
set_option linter.unusedSimpArgs false
set_option maxRecDepth 100000
def s35 (j : Nat) : Int := if j = 0 then 3 else 5
theorem scOk_two : scOk 2 s35 := ⟨by omega, by omega, fun j hj => by unfold s35; split <;> omega⟩
theorem least_two0 {x : Nat} (h : Least (fun _ => 0) 2 x) : x = 0 := by
  by_cases e : x = 0
  · exact e
  · have := h.2 0 (by omega) (Ne.symm e); unfold ahd at this; dsimp only at this; omega
theorem least_two1 {x : Nat} {T : Nat → Int} (h : Least T 2 x) (h0 : T 0 = 6) (h1 : T 1 = 0) : x = 1 := by
  have hx := h.1
  by_cases e : x = 1
  · exact e
  · have := h.2 1 (by omega) (Ne.symm e)
    obtain rfl : x = 0 := by omega
    unfold ahd at this; omega
theorem room_two {T : Nat → Int} (h0 : T 0 = 6) (h1 : T 1 = 0) : IsRoom 2 s35 T 1 2 := by
  have e : s35 1 = 5 := rfl
  refine ⟨by omega, by omega, fun t t0 t1 hl => ?_, fun _ => ⟨0, by omega, by omega, ?_⟩⟩
  · obtain ⟨k, k1, k2, k3⟩ := hl
    obtain rfl : k = 0 := by omega
    rw [e, h0, h1] at k3
    omega
  · rw [e, h0, h1]; omega
set_option maxHeartbeats 4000000 in
theorem two_any (w : World) : Calls Try.prog 8 #[] w (Says w (.bool true)) := by
  go_enter Try.func8, Try.ntmps8
  go_wp2_with fail
  obtain ⟨W1, hW⟩ : ∃ W1, w.alloc (.cells #[.int .i64 3, .int .i64 5] 2) = W1 := ⟨_, rfl⟩
  obtain ⟨B, hB⟩ : ∃ B, w.heap.size = B := ⟨_, rfl⟩
  have B1 : Hid (Below w.heap.size w W1) := Lib.hid (by rw [← hW]; exact belowA (Below.refl _ _) _)
  have SE : Sees W1 .i64 (.slice (some ⟨B, 0, none⟩) 2 2) 2 s35 := ⟨_, _, rfl, Or.inr ⟨B, 0, rfl, fun j hj => by
    have e := (Blk.new w 2 #[.int .i64 3, .int .i64 5]).cell (0 + j)
    rw [hW, hB] at e
    rw [e]
    rcases (show j = 0 ∨ j = 1 by omega) with rfl | rfl <;> rfl⟩⟩
  rw [hW, hB]
  clear hW hB
  refine (new_any _ 2 s35 W1 SE).mono ?_
  rintro e w1 hp
  have hp2 : ∃ g b cap, e = .returned (.tuple #[.pointer (some ⟨g, 0, none⟩), .int .i64 0]) ∧ W1.heap.size ≤ g ∧ W1.heap.size ≤ b ∧ Ck w1 g b cap 2 s35 (fun _ => 0) ∧ Below W1.heap.size W1 w1 := by
    rcases hp with ⟨c, _, h, _⟩ | ⟨_, h⟩
    · exact absurd scOk_two h
    · exact h
  obtain ⟨g, b, cap, rfl, hg, hb, ck, b1⟩ := hp2
  have NX := Lib.hid (next_any ck (by omega) (by omega))
  have HG := Lib.hid (show w.heap.size ≤ g ∧ w.heap.size ≤ b from ⟨Nat.le_trans B1.out.size hg, Nat.le_trans B1.out.size hb⟩)
  have C1 := Lib.hid ck
  have B2 := Lib.hid (B1.out.trans (b1.mono B1.out.size))
  clear hp ck b1 hg hb SE B1
  go_wp2_with fail
  refine NX.out.mono ?_
  rintro e w2 ⟨x, hx, rfl, b2⟩
  obtain rfl := least_two0 hx
  have C2 := C1.out.kept b2
  have B3 := Lib.hid (B2.out.trans (b2.mono B2.out.size))
  have AD := Lib.hid (add_any C2 0 (by omega) (by omega) 2 (by omega) (by omega) (by decide) (by decide) (by decide) (by decide))
  clear NX hx b2 C2 C1 B2
  go_wp2_with fail
  refine AD.out.mono ?_
  rintro e w3 ⟨rfl, ck, u⟩
  have B4 := Lib.hid (u.out B3.out HG.out.2)
  have NX := Lib.hid (next_any ck (by omega) (by omega))
  have C3 := Lib.hid ck
  clear ck u AD B3
  go_wp2_with fail
  refine NX.out.mono ?_
  rintro e w4 ⟨x, hx, rfl, b4⟩
  obtain rfl := least_two1 hx rfl rfl
  have B5 := Lib.hid (B4.out.trans (b4.mono B4.out.size))
  have RM := Lib.hid (room_any (C3.out.kept b4) (by omega) 1 (by omega) scOk_two.2.2 (fun j hj => by
    rcases (show j = 0 ∨ j = 1 by omega) with rfl | rfl <;> decide))
  clear NX hx b4 C3 B4
  go_wp2_with fail
  refine RM.out.mono ?_
  rintro e w5 ⟨r, hr, rfl, b5⟩
  obtain rfl := hr.uniq (room_two rfl rfl)
  have B6 := Lib.hid (B5.out.trans (b5.mono B5.out.size))
  clear RM hr b5 B5
  go_wp2_with fail
  go_ret
  exact ⟨rfl, B6.out⟩
end Go.Proofs.Ytfigepnpegnhkaa
