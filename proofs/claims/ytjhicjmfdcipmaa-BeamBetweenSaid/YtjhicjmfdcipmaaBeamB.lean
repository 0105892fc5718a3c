/- Contracts of Time, Blank, Until. -/
import Derived.Test.YtjhicjmfdcipmaaBeamA
namespace Go.Proofs.Ytjhicjmfdcipmaa
open Go.RowKit

/-- Is the beam between lines? between pictures? -/
def blankH (t : Int) : Bool := decide (t % 1364 < 4) || decide (1096 ≤ t % 1364)
def blankV (t : Int) (o : Bool) : Bool := decide (t % 357368 / 1364 = 0) || decide (lastN o < t % 357368 / 1364)

set_option maxHeartbeats 400000 in
theorem blank_yes (t : Int) (o : Bool) (w : World) (h0 : 0 ≤ t) (h1 : t ≤ 281474976710656) :
    Calls Try.prog 15 #[.int .i64 t, .bool o] w fun e w' => e = .returned (.tuple #[.bool (blankH t), .bool (blankV t o)]) ∧ Below w.heap.size w w' := by
  by_cases c1 : t % 1364 < 4 <;> cases c2 : (t % 357368 / 1364 == 0)
  all_goals
    go_enter Try.func15, Try.ntmps15
    go_wp2_with (first | (go_at_call 33; refine (isTime_yes _ _ h0 h1).mono ?_; rintro e w' ⟨rfl, rfl⟩) | (go_at_call 12; refine (beamOf_yes _ _ h0 h1).mono ?_; rintro e w' ⟨rfl, rfl⟩))
    go_quiet ((go_at_call 16; exact quiet_flip (last_any _ _)))
    go_wp2
    go_ret2
    refine ⟨?_, below_drewN (by go_grown) _⟩
    simp at c2
    simp [blankH, blankV, c1, c2]

set_option maxHeartbeats 400000 in
theorem rBlank_yes (t : Int) (o : Bool) (w : World) (h0 : 0 ≤ t) (h1 : t ≤ 281474976710656) :
    Calls Try.prog 14 #[.int .i64 t, .bool o] w fun e w' => e = .returned (.tuple #[.bool (blankH t), .bool (blankV t o)]) ∧ Below w.heap.size w w' := by
  by_cases c1 : t % 1364 < 4 <;> cases c2 : (t % 357368 / 1364 == 0)
  all_goals
    go_enter Try.func14, Try.ntmps14
    go_wp2_with (first | (go_at_call 32; refine (rIs_yes _ _ h0 h1).mono ?_; rintro e w' ⟨rfl, rfl⟩) | (go_at_call 18; refine (rOf_yes _ _ h0 h1).mono ?_; rintro e w' ⟨rfl, rfl⟩))
    go_quiet ((go_at_call 17; exact quiet_flip (rLast_any _ _)))
    go_wp2
    go_ret2
    refine ⟨?_, below_drewN (by go_grown) _⟩
    simp at c2
    simp [blankH, blankV, c1, c2]

theorem blank_no (t : Int) (o : Bool) (w : World) (h : t < 0 ∨ 281474976710656 < t) :
    Calls Try.prog 15 #[.int .i64 t, .bool o] w fun e w' => e = .returned (.tuple #[.bool false, .bool false]) ∧ w = w' := by
  go_enter Try.func15, Try.ntmps15
  go_wp2_with (go_at_call 33; refine (isTime_no _ _ h).mono ?_; rintro e w' ⟨rfl, rfl⟩)
  go_ret2
  exact ⟨rfl, rfl⟩

theorem rBlank_no (t : Int) (o : Bool) (w : World) (h : t < 0 ∨ 281474976710656 < t) :
    Calls Try.prog 14 #[.int .i64 t, .bool o] w fun e w' => e = .returned (.tuple #[.bool false, .bool false]) ∧ w = w' := by
  go_enter Try.func14, Try.ntmps14
  go_wp2_with (go_at_call 32; refine (rIs_no _ _ h).mono ?_; rintro e w' ⟨rfl, rfl⟩)
  go_ret2
  exact ⟨rfl, rfl⟩

end Go.Proofs.Ytjhicjmfdcipmaa
