/- The beam, and the document's, in a seat that has no law of the beam. -/
import Derived.Test.YtniagcbajjmopaaGreatPortsA
import Derived.Test.YtniagcbajjmopaaGreatKits
namespace Go.Proofs.YtniagcbajjmopaaGreat.Bm
open Go.RowKit
/-- The block in which a struct result of type Beam lies. -/
abbrev beamO (f l h d : Int) : Obj := .cells #[.int .i64 f, .int .i64 l, .int .i64 h, .int .i64 d] 79
abbrev beamV (f l h d : Int) : Value := .agg #[.int .i64 f, .int .i64 l, .int .i64 h, .int .i64 d]

theorem isTime_yes (t : Int) (w : World) (h0 : 0 ≤ t) (h1 : t ≤ 281474976710656) :
    Calls Tryz.prog 86 #[.int .i64 t] w fun e w' => e = .returned (.bool true) ∧ w = w' := by
  go_enter Tryz.func86, Tryz.ntmps86
  go_wp2
  go_ret
  exact ⟨rfl, rfl⟩

theorem isTime_no (t : Int) (w : World) (h : t < 0 ∨ 281474976710656 < t) :
    Calls Tryz.prog 86 #[.int .i64 t] w fun e w' => e = .returned (.bool false) ∧ w = w' := by
  rcases h with h | h
  · go_enter Tryz.func86, Tryz.ntmps86
    go_wp2
    go_ret
    exact ⟨rfl, rfl⟩
  · have h0 : 0 ≤ t := by omega
    go_enter Tryz.func86, Tryz.ntmps86
    go_wp2
    go_ret
    exact ⟨by simp; omega, rfl⟩

theorem rIs_yes (t : Int) (w : World) (h0 : 0 ≤ t) (h1 : t ≤ 281474976710656) :
    Calls Tryz.prog 85 #[.int .i64 t] w fun e w' => e = .returned (.bool true) ∧ w = w' := by
  go_enter Tryz.func85, Tryz.ntmps85
  go_wp2
  go_ret
  exact ⟨rfl, rfl⟩

theorem rIs_no (t : Int) (w : World) (h : t < 0 ∨ 281474976710656 < t) :
    Calls Tryz.prog 85 #[.int .i64 t] w fun e w' => e = .returned (.bool false) ∧ w = w' := by
  rcases h with h | h
  · go_enter Tryz.func85, Tryz.ntmps85
    go_wp2
    go_ret
    exact ⟨rfl, rfl⟩
  · have h0 : 0 ≤ t := by omega
    go_enter Tryz.func85, Tryz.ntmps85
    go_wp2
    go_ret
    exact ⟨by simp; omega, rfl⟩

theorem beamOf_yes (t : Int) (w : World) (h0 : 0 ≤ t) (h1 : t ≤ 281474976710656) :
    Calls Tryz.prog 62 #[.int .i64 t] w fun e w' => e = .returned (beamV (t / 357368) (t % 357368 / 1364) (t % 1364) (t % 1364 / 4)) ∧ w.alloc (beamO (t / 357368) (t % 357368 / 1364) (t % 1364) (t % 1364 / 4)) = w' := by
  go_enter Tryz.func62, Tryz.ntmps62
  go_wp2_with (go_at_call 86; refine (isTime_yes _ _ h0 h1).mono ?_; rintro e w' ⟨rfl, rfl⟩)
  exact bodyPost_ret (v := beamV (t / 357368) (t % 357368 / 1364) (t % 1364) (t % 1364 / 4)) (by simp [results, Tryz.results62, go_sem]) rfl ⟨rfl, rfl⟩

theorem beamOf_no (t : Int) (w : World) (h : t < 0 ∨ 281474976710656 < t) :
    Calls Tryz.prog 62 #[.int .i64 t] w fun e w' => e = .returned (beamV 0 0 0 0) ∧ w.alloc (beamO 0 0 0 0) = w' := by
  go_enter Tryz.func62, Tryz.ntmps62
  go_wp2_with (go_at_call 86; refine (isTime_no _ _ h).mono ?_; rintro e w' ⟨rfl, rfl⟩)
  exact bodyPost_ret (v := beamV 0 0 0 0) (by simp [results, Tryz.results62, go_sem]) rfl ⟨rfl, rfl⟩

theorem rOf_yes (t : Int) (w : World) (h0 : 0 ≤ t) (h1 : t ≤ 281474976710656) :
    Calls Tryz.prog 60 #[.int .i64 t] w fun e w' => e = .returned (beamV (t / 357368) (t % 357368 / 1364) (t % 1364) (t % 1364 / 4)) ∧ w.alloc (beamO (t / 357368) (t % 357368 / 1364) (t % 1364) (t % 1364 / 4)) = w' := by
  have e1 : t / 1364 / 262 = t / 357368 := by omega
  have e2 : t / 1364 % 262 = t % 357368 / 1364 := by omega
  have e3 : t - t / 1364 * 1364 = t % 1364 := by omega
  have E1 := Lib.hid e1
  have E2 := Lib.hid e2
  have E3 := Lib.hid e3
  clear e1 e2 e3
  go_enter Tryz.func60, Tryz.ntmps60
  go_wp2_with (go_at_call 85; refine (rIs_yes _ _ h0 h1).mono ?_; rintro e w' ⟨rfl, rfl⟩)
  rw [E1.out, E2.out, E3.out]
  exact bodyPost_ret (v := beamV (t / 357368) (t % 357368 / 1364) (t % 1364) (t % 1364 / 4)) (by simp [results, Tryz.results60, go_sem]) rfl ⟨rfl, rfl⟩

theorem rOf_no (t : Int) (w : World) (h : t < 0 ∨ 281474976710656 < t) :
    Calls Tryz.prog 60 #[.int .i64 t] w fun e w' => e = .returned (beamV 0 0 0 0) ∧ w.alloc (beamO 0 0 0 0) = w' := by
  go_enter Tryz.func60, Tryz.ntmps60
  go_wp2_with (go_at_call 85; refine (rIs_no _ _ h).mono ?_; rintro e w' ⟨rfl, rfl⟩)
  exact bodyPost_ret (v := beamV 0 0 0 0) (by simp [results, Tryz.results60, go_sem]) rfl ⟨rfl, rfl⟩

def lastN (o : Bool) : Int := if o then 239 else 224
theorem last_any (o : Bool) (w : World) : Calls Tryz.prog 63 #[.bool o] w fun e w' => e = .returned (.int .i64 (lastN o)) ∧ w = w' := by
  cases o
  all_goals
    go_enter Tryz.func63, Tryz.ntmps63
    go_wp2
    go_ret
    exact ⟨rfl, rfl⟩
theorem rLast_any (o : Bool) (w : World) : Calls Tryz.prog 61 #[.bool o] w fun e w' => e = .returned (.int .i64 (lastN o)) ∧ w = w' := by
  cases o
  all_goals
    go_enter Tryz.func61, Tryz.ntmps61
    go_wp2
    go_ret
    exact ⟨rfl, rfl⟩

/-- Is the beam between lines? between pictures? -/
def blankH (t : Int) : Bool := decide (t % 1364 < 4) || decide (1096 ≤ t % 1364)
def blankV (t : Int) (o : Bool) : Bool := decide (t % 357368 / 1364 = 0) || decide (lastN o < t % 357368 / 1364)

set_option maxHeartbeats 400000 in
theorem blank_yes (t : Int) (o : Bool) (w : World) (h0 : 0 ≤ t) (h1 : t ≤ 281474976710656) :
    Calls Tryz.prog 64 #[.int .i64 t, .bool o] w fun e w' => e = .returned (.tuple #[.bool (blankH t), .bool (blankV t o)]) ∧ Below w.heap.size w w' := by
  by_cases c1 : t % 1364 < 4 <;> cases c2 : (t % 357368 / 1364 == 0)
  all_goals
    go_enter Tryz.func64, Tryz.ntmps64
    go_wp2_with (first | (go_at_call 86; refine (isTime_yes _ _ h0 h1).mono ?_; rintro e w' ⟨rfl, rfl⟩) | (go_at_call 62; refine (beamOf_yes _ _ h0 h1).mono ?_; rintro e w' ⟨rfl, rfl⟩))
    go_quiet ((go_at_call 63; exact quiet_flip (last_any _ _)))
    go_wp2
    go_ret2
    refine ⟨?_, below_drewN (by go_grown) _⟩
    simp at c2
    simp [blankH, blankV, c1, c2]

set_option maxHeartbeats 400000 in
theorem rBlank_yes (t : Int) (o : Bool) (w : World) (h0 : 0 ≤ t) (h1 : t ≤ 281474976710656) :
    Calls Tryz.prog 59 #[.int .i64 t, .bool o] w fun e w' => e = .returned (.tuple #[.bool (blankH t), .bool (blankV t o)]) ∧ Below w.heap.size w w' := by
  by_cases c1 : t % 1364 < 4 <;> cases c2 : (t % 357368 / 1364 == 0)
  all_goals
    go_enter Tryz.func59, Tryz.ntmps59
    go_wp2_with (first | (go_at_call 85; refine (rIs_yes _ _ h0 h1).mono ?_; rintro e w' ⟨rfl, rfl⟩) | (go_at_call 60; refine (rOf_yes _ _ h0 h1).mono ?_; rintro e w' ⟨rfl, rfl⟩))
    go_quiet ((go_at_call 61; exact quiet_flip (rLast_any _ _)))
    go_wp2
    go_ret2
    refine ⟨?_, below_drewN (by go_grown) _⟩
    simp at c2
    simp [blankH, blankV, c1, c2]

end Go.Proofs.YtniagcbajjmopaaGreat.Bm
