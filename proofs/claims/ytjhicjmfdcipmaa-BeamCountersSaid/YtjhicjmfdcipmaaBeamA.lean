/- Contracts of the beam's functions (package beam) and of the document's answers (lanthornref19), for every time. -/
import Derived.Test.YtjhicjmfdcipmaaChecked
import Derived.Test.YtjhicjmfdcipmaaKit
namespace Go.Proofs.Ytjhicjmfdcipmaa
open Go.RowKit

/-- The block in which a struct result of type Beam lies. -/
abbrev beamO (f l h d : Int) : Obj := .cells #[.int .i64 f, .int .i64 l, .int .i64 h, .int .i64 d] 23
abbrev beamV (f l h d : Int) : Value := .agg #[.int .i64 f, .int .i64 l, .int .i64 h, .int .i64 d]

theorem isTime_yes (t : Int) (w : World) (h0 : 0 ≤ t) (h1 : t ≤ 281474976710656) :
    Calls Try.prog 33 #[.int .i64 t] w fun e w' => e = .returned (.bool true) ∧ w = w' := by
  go_enter Try.func33, Try.ntmps33
  go_wp2
  go_ret
  exact ⟨rfl, rfl⟩

theorem isTime_no (t : Int) (w : World) (h : t < 0 ∨ 281474976710656 < t) :
    Calls Try.prog 33 #[.int .i64 t] w fun e w' => e = .returned (.bool false) ∧ w = w' := by
  rcases h with h | h
  · go_enter Try.func33, Try.ntmps33
    go_wp2
    go_ret
    exact ⟨rfl, rfl⟩
  · have h0 : 0 ≤ t := by omega
    go_enter Try.func33, Try.ntmps33
    go_wp2
    go_ret
    exact ⟨by simp; omega, rfl⟩

theorem rIs_yes (t : Int) (w : World) (h0 : 0 ≤ t) (h1 : t ≤ 281474976710656) :
    Calls Try.prog 32 #[.int .i64 t] w fun e w' => e = .returned (.bool true) ∧ w = w' := by
  go_enter Try.func32, Try.ntmps32
  go_wp2
  go_ret
  exact ⟨rfl, rfl⟩

theorem rIs_no (t : Int) (w : World) (h : t < 0 ∨ 281474976710656 < t) :
    Calls Try.prog 32 #[.int .i64 t] w fun e w' => e = .returned (.bool false) ∧ w = w' := by
  rcases h with h | h
  · go_enter Try.func32, Try.ntmps32
    go_wp2
    go_ret
    exact ⟨rfl, rfl⟩
  · have h0 : 0 ≤ t := by omega
    go_enter Try.func32, Try.ntmps32
    go_wp2
    go_ret
    exact ⟨by simp; omega, rfl⟩

theorem beamOf_yes (t : Int) (w : World) (h0 : 0 ≤ t) (h1 : t ≤ 281474976710656) :
    Calls Try.prog 12 #[.int .i64 t] w fun e w' => e = .returned (beamV (t / 357368) (t % 357368 / 1364) (t % 1364) (t % 1364 / 4)) ∧ w.alloc (beamO (t / 357368) (t % 357368 / 1364) (t % 1364) (t % 1364 / 4)) = w' := by
  go_enter Try.func12, Try.ntmps12
  go_wp2_with (go_at_call 33; refine (isTime_yes _ _ h0 h1).mono ?_; rintro e w' ⟨rfl, rfl⟩)
  exact bodyPost_ret (v := beamV (t / 357368) (t % 357368 / 1364) (t % 1364) (t % 1364 / 4)) (by simp [results, Try.results12, go_sem]) rfl ⟨rfl, rfl⟩

theorem beamOf_no (t : Int) (w : World) (h : t < 0 ∨ 281474976710656 < t) :
    Calls Try.prog 12 #[.int .i64 t] w fun e w' => e = .returned (beamV 0 0 0 0) ∧ w.alloc (beamO 0 0 0 0) = w' := by
  go_enter Try.func12, Try.ntmps12
  go_wp2_with (go_at_call 33; refine (isTime_no _ _ h).mono ?_; rintro e w' ⟨rfl, rfl⟩)
  exact bodyPost_ret (v := beamV 0 0 0 0) (by simp [results, Try.results12, go_sem]) rfl ⟨rfl, rfl⟩

theorem rOf_yes (t : Int) (w : World) (h0 : 0 ≤ t) (h1 : t ≤ 281474976710656) :
    Calls Try.prog 18 #[.int .i64 t] w fun e w' => e = .returned (beamV (t / 357368) (t % 357368 / 1364) (t % 1364) (t % 1364 / 4)) ∧ w.alloc (beamO (t / 357368) (t % 357368 / 1364) (t % 1364) (t % 1364 / 4)) = w' := by
  have e1 : t / 1364 / 262 = t / 357368 := by omega
  have e2 : t / 1364 % 262 = t % 357368 / 1364 := by omega
  have e3 : t - t / 1364 * 1364 = t % 1364 := by omega
  have E1 := Lib.hid e1
  have E2 := Lib.hid e2
  have E3 := Lib.hid e3
  clear e1 e2 e3
  go_enter Try.func18, Try.ntmps18
  go_wp2_with (go_at_call 32; refine (rIs_yes _ _ h0 h1).mono ?_; rintro e w' ⟨rfl, rfl⟩)
  rw [E1.out, E2.out, E3.out]
  exact bodyPost_ret (v := beamV (t / 357368) (t % 357368 / 1364) (t % 1364) (t % 1364 / 4)) (by simp [results, Try.results18, go_sem]) rfl ⟨rfl, rfl⟩

theorem rOf_no (t : Int) (w : World) (h : t < 0 ∨ 281474976710656 < t) :
    Calls Try.prog 18 #[.int .i64 t] w fun e w' => e = .returned (beamV 0 0 0 0) ∧ w.alloc (beamO 0 0 0 0) = w' := by
  go_enter Try.func18, Try.ntmps18
  go_wp2_with (go_at_call 32; refine (rIs_no _ _ h).mono ?_; rintro e w' ⟨rfl, rfl⟩)
  exact bodyPost_ret (v := beamV 0 0 0 0) (by simp [results, Try.results18, go_sem]) rfl ⟨rfl, rfl⟩

theorem awake_true (w : World) : Calls Try.prog 13 #[] w fun e w' => e = .returned (.bool true) ∧ w.alloc (beamO 1 1 9 2) = w' := by
  go_enter Try.func13, Try.ntmps13
  go_wp2_with (go_at_call 12; refine (beamOf_yes _ _ (by decide) (by decide)).mono ?_; rintro e w' ⟨rfl, rfl⟩)
  go_ret
  exact ⟨rfl, rfl⟩

def lastN (o : Bool) : Int := if o then 239 else 224
theorem last_any (o : Bool) (w : World) : Calls Try.prog 16 #[.bool o] w fun e w' => e = .returned (.int .i64 (lastN o)) ∧ w = w' := by
  cases o
  all_goals
    go_enter Try.func16, Try.ntmps16
    go_wp2
    go_ret
    exact ⟨rfl, rfl⟩
theorem rLast_any (o : Bool) (w : World) : Calls Try.prog 17 #[.bool o] w fun e w' => e = .returned (.int .i64 (lastN o)) ∧ w = w' := by
  cases o
  all_goals
    go_enter Try.func17, Try.ntmps17
    go_wp2
    go_ret
    exact ⟨rfl, rfl⟩

end Go.Proofs.Ytjhicjmfdcipmaa
