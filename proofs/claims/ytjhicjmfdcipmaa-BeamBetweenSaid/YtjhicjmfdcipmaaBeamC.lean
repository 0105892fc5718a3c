/- Contracts of Time. -/
import Derived.Test.YtjhicjmfdcipmaaBeamB
namespace Go.Proofs.Ytjhicjmfdcipmaa
open Go.RowKit

/-- A beam that can be. -/
def beamIs (f l h d : Int) : Prop := 0 ≤ f ∧ 0 ≤ l ∧ l < 262 ∧ 0 ≤ h ∧ h < 1364 ∧ d = h / 4 ∧ f * 357368 + l * 1364 + h ≤ 281474976710656

set_option maxHeartbeats 400000 in
theorem time_y (t : Int) (w : World) (t0 : 0 ≤ t) (t1 : t ≤ 281474976710656) :
    Calls Try.prog 11 #[beamV (t / 357368) (t % 357368 / 1364) (t % 1364) (t % 1364 / 4)] w fun e w' => e = .returned (.tuple #[.int .i64 t, .bool true]) ∧ Below w.heap.size w w' := by
  have E := Lib.hid (show t / 357368 * 357368 + t % 357368 / 1364 * 1364 + t % 1364 = t by omega)
  go_enter Try.func11, Try.ntmps11
  go_wp2
  rw [E.out]
  go_region_with (first | (go_at_call 33; refine (isTime_yes _ _ t0 t1).mono ?_; rintro e w' ⟨rfl, rfl⟩) | (go_at_call 12; refine (beamOf_yes _ _ t0 t1).mono ?_; rintro e w' ⟨rfl, rfl⟩))
  all_goals
    go_wp2
    go_ret2
    exact ⟨rfl, by go_grown⟩

set_option maxHeartbeats 400000 in
theorem time_d (t d : Int) (w : World) (t0 : 0 ≤ t) (t1 : t ≤ 281474976710656) (hd : (t % 1364 / 4 == d) = false) :
    Calls Try.prog 11 #[beamV (t / 357368) (t % 357368 / 1364) (t % 1364) d] w fun e w' => e = .returned (.tuple #[.int .i64 0, .bool false]) ∧ Below w.heap.size w w' := by
  have E := Lib.hid (show t / 357368 * 357368 + t % 357368 / 1364 * 1364 + t % 1364 = t by omega)
  go_enter Try.func11, Try.ntmps11
  go_wp2
  rw [E.out]
  go_region_with (first | (go_at_call 33; refine (isTime_yes _ _ t0 t1).mono ?_; rintro e w' ⟨rfl, rfl⟩) | (go_at_call 12; refine (beamOf_yes _ _ t0 t1).mono ?_; rintro e w' ⟨rfl, rfl⟩))
  all_goals
    go_wp2
    go_ret2
    exact ⟨rfl, by go_grown⟩

set_option maxHeartbeats 400000 in
theorem time_g (t f l h d : Int) (w : World) (h1 : 0 ≤ f) (h2 : f ≤ 787633410) (h3 : 0 ≤ l) (h4 : l < 262) (h5 : 0 ≤ h) (h6 : h < 1364) (E : Hid (f * 357368 + l * 1364 + h = t)) (t1 : 281474976710656 < t) :
    Calls Try.prog 11 #[beamV f l h d] w fun e w' => e = .returned (.tuple #[.int .i64 0, .bool false]) ∧ Below w.heap.size w w' := by
  go_enter Try.func11, Try.ntmps11
  go_wp2
  rw [E.out]
  go_quiet ((go_at_call 33; exact quiet_flip (isTime_no _ _ (Or.inr t1))))
  go_wp2
  go_ret2
  exact ⟨rfl, below_drewN (by go_grown) _⟩

set_option maxHeartbeats 400000 in
theorem time_o0 (f l h d : Int) (w : World) (hc : f < 0)  :
    Calls Try.prog 11 #[beamV f l h d] w fun e w' => e = .returned (.tuple #[.int .i64 0, .bool false]) ∧ Below w.heap.size w w' := by
  go_enter Try.func11, Try.ntmps11
  go_wp2
  go_ret2
  exact ⟨rfl, by go_grown⟩

set_option maxHeartbeats 400000 in
theorem time_o1 (f l h d : Int) (w : World) (hc : 787633410 < f) (h0 : 0 ≤ f) :
    Calls Try.prog 11 #[beamV f l h d] w fun e w' => e = .returned (.tuple #[.int .i64 0, .bool false]) ∧ Below w.heap.size w w' := by
  go_enter Try.func11, Try.ntmps11
  go_wp2
  go_ret2
  exact ⟨rfl, by go_grown⟩

set_option maxHeartbeats 400000 in
theorem time_o2 (f l h d : Int) (w : World) (hc : l < 0) (h0 : 0 ≤ f) (h1 : f ≤ 787633410) :
    Calls Try.prog 11 #[beamV f l h d] w fun e w' => e = .returned (.tuple #[.int .i64 0, .bool false]) ∧ Below w.heap.size w w' := by
  go_enter Try.func11, Try.ntmps11
  go_wp2
  go_ret2
  exact ⟨rfl, by go_grown⟩

set_option maxHeartbeats 400000 in
theorem time_o3 (f l h d : Int) (w : World) (hc : 262 ≤ l) (h0 : 0 ≤ f) (h1 : f ≤ 787633410) (h2 : 0 ≤ l) :
    Calls Try.prog 11 #[beamV f l h d] w fun e w' => e = .returned (.tuple #[.int .i64 0, .bool false]) ∧ Below w.heap.size w w' := by
  go_enter Try.func11, Try.ntmps11
  go_wp2
  go_ret2
  exact ⟨rfl, by go_grown⟩

set_option maxHeartbeats 400000 in
theorem time_o4 (f l h d : Int) (w : World) (hc : h < 0) (h0 : 0 ≤ f) (h1 : f ≤ 787633410) (h2 : 0 ≤ l) (h3 : l < 262) :
    Calls Try.prog 11 #[beamV f l h d] w fun e w' => e = .returned (.tuple #[.int .i64 0, .bool false]) ∧ Below w.heap.size w w' := by
  go_enter Try.func11, Try.ntmps11
  go_wp2
  go_ret2
  exact ⟨rfl, by go_grown⟩

set_option maxHeartbeats 400000 in
theorem time_o5 (f l h d : Int) (w : World) (hc : 1364 ≤ h) (h0 : 0 ≤ f) (h1 : f ≤ 787633410) (h2 : 0 ≤ l) (h3 : l < 262) (h4 : 0 ≤ h) :
    Calls Try.prog 11 #[beamV f l h d] w fun e w' => e = .returned (.tuple #[.int .i64 0, .bool false]) ∧ Below w.heap.size w w' := by
  go_enter Try.func11, Try.ntmps11
  go_wp2
  go_ret2
  exact ⟨rfl, by go_grown⟩

theorem time_yes (f l h d : Int) (w : World) (hv : beamIs f l h d) :
    Calls Try.prog 11 #[beamV f l h d] w fun e w' => e = .returned (.tuple #[.int .i64 (f * 357368 + l * 1364 + h), .bool true]) ∧ Below w.heap.size w w' := by
  obtain ⟨h1, h2, h3, h4, h5, h6, h7⟩ := hv
  have k := time_y (f * 357368 + l * 1364 + h) w (by omega) h7
  rw [show (f * 357368 + l * 1364 + h) / 357368 = f by omega, show (f * 357368 + l * 1364 + h) % 357368 / 1364 = l by omega, show (f * 357368 + l * 1364 + h) % 1364 = h by omega, ← h6] at k
  exact k

theorem time_no (f l h d : Int) (w : World) (hv : ¬ beamIs f l h d) :
    Calls Try.prog 11 #[beamV f l h d] w fun e w' => e = .returned (.tuple #[.int .i64 0, .bool false]) ∧ Below w.heap.size w w' := by
  by_cases c0 : f < 0
  · exact time_o0 f l h d w c0 
  by_cases c1 : 787633410 < f
  · exact time_o1 f l h d w c1 (by omega)
  by_cases c2 : l < 0
  · exact time_o2 f l h d w c2 (by omega) (by omega)
  by_cases c3 : 262 ≤ l
  · exact time_o3 f l h d w c3 (by omega) (by omega) (by omega)
  by_cases c4 : h < 0
  · exact time_o4 f l h d w c4 (by omega) (by omega) (by omega) (by omega)
  by_cases c5 : 1364 ≤ h
  · exact time_o5 f l h d w c5 (by omega) (by omega) (by omega) (by omega) (by omega)
  by_cases c6 : 281474976710656 < f * 357368 + l * 1364 + h
  · exact time_g _ f l h d w (by omega) (by omega) (by omega) (by omega) (by omega) (by omega) (Lib.hid rfl) c6
  · have hd : ¬ d = h / 4 := fun e => hv ⟨by omega, by omega, by omega, by omega, by omega, e, by omega⟩
    have k := time_d (f * 357368 + l * 1364 + h) d w (by omega) (by omega) (by rw [show (f * 357368 + l * 1364 + h) % 1364 = h by omega]; simp; omega)
    rw [show (f * 357368 + l * 1364 + h) / 357368 = f by omega, show (f * 357368 + l * 1364 + h) % 357368 / 1364 = l by omega, show (f * 357368 + l * 1364 + h) % 1364 = h by omega] at k
    exact k

set_option maxHeartbeats 400000 in
theorem rtime_y (t : Int) (w : World) (t0 : 0 ≤ t) (t1 : t ≤ 281474976710656) :
    Calls Try.prog 10 #[beamV (t / 357368) (t % 357368 / 1364) (t % 1364) (t % 1364 / 4)] w fun e w' => e = .returned (.tuple #[.int .i64 t, .bool true]) ∧ Below w.heap.size w w' := by
  have E := Lib.hid (show (t / 357368 * 262 + t % 357368 / 1364) * 1364 + t % 1364 = t by omega)
  go_enter Try.func10, Try.ntmps10
  go_wp2
  rw [E.out]
  go_region_with (first | (go_at_call 32; refine (rIs_yes _ _ t0 t1).mono ?_; rintro e w' ⟨rfl, rfl⟩) | (go_at_call 18; refine (rOf_yes _ _ t0 t1).mono ?_; rintro e w' ⟨rfl, rfl⟩))
  all_goals
    go_wp2
    go_ret2
    exact ⟨rfl, by go_grown⟩

set_option maxHeartbeats 400000 in
theorem rtime_d (t d : Int) (w : World) (t0 : 0 ≤ t) (t1 : t ≤ 281474976710656) (hd : (t % 1364 / 4 == d) = false) :
    Calls Try.prog 10 #[beamV (t / 357368) (t % 357368 / 1364) (t % 1364) d] w fun e w' => e = .returned (.tuple #[.int .i64 0, .bool false]) ∧ Below w.heap.size w w' := by
  have E := Lib.hid (show (t / 357368 * 262 + t % 357368 / 1364) * 1364 + t % 1364 = t by omega)
  go_enter Try.func10, Try.ntmps10
  go_wp2
  rw [E.out]
  go_region_with (first | (go_at_call 32; refine (rIs_yes _ _ t0 t1).mono ?_; rintro e w' ⟨rfl, rfl⟩) | (go_at_call 18; refine (rOf_yes _ _ t0 t1).mono ?_; rintro e w' ⟨rfl, rfl⟩))
  all_goals
    go_wp2
    go_ret2
    exact ⟨rfl, by go_grown⟩

set_option maxHeartbeats 400000 in
theorem rtime_g (t f l h d : Int) (w : World) (h1 : 0 ≤ f) (h2 : f ≤ 1099511627776) (h3 : 0 ≤ l) (h4 : l < 262) (h5 : 0 ≤ h) (h6 : h < 1364) (E : Hid ((f * 262 + l) * 1364 + h = t)) (t1 : 281474976710656 < t) :
    Calls Try.prog 10 #[beamV f l h d] w fun e w' => e = .returned (.tuple #[.int .i64 0, .bool false]) ∧ Below w.heap.size w w' := by
  go_enter Try.func10, Try.ntmps10
  go_wp2
  rw [E.out]
  go_quiet ((go_at_call 32; exact quiet_flip (rIs_no _ _ (Or.inr t1))))
  go_wp2
  go_ret2
  exact ⟨rfl, below_drewN (by go_grown) _⟩

set_option maxHeartbeats 400000 in
theorem rtime_o0 (f l h d : Int) (w : World) (hc : f < 0)  :
    Calls Try.prog 10 #[beamV f l h d] w fun e w' => e = .returned (.tuple #[.int .i64 0, .bool false]) ∧ Below w.heap.size w w' := by
  go_enter Try.func10, Try.ntmps10
  go_wp2
  go_ret2
  exact ⟨rfl, by go_grown⟩

set_option maxHeartbeats 400000 in
theorem rtime_o1 (f l h d : Int) (w : World) (hc : 1099511627776 < f) (h0 : 0 ≤ f) :
    Calls Try.prog 10 #[beamV f l h d] w fun e w' => e = .returned (.tuple #[.int .i64 0, .bool false]) ∧ Below w.heap.size w w' := by
  go_enter Try.func10, Try.ntmps10
  go_wp2
  go_ret2
  exact ⟨rfl, by go_grown⟩

set_option maxHeartbeats 400000 in
theorem rtime_o2 (f l h d : Int) (w : World) (hc : l < 0) (h0 : 0 ≤ f) (h1 : f ≤ 1099511627776) :
    Calls Try.prog 10 #[beamV f l h d] w fun e w' => e = .returned (.tuple #[.int .i64 0, .bool false]) ∧ Below w.heap.size w w' := by
  go_enter Try.func10, Try.ntmps10
  go_wp2
  go_ret2
  exact ⟨rfl, by go_grown⟩

set_option maxHeartbeats 400000 in
theorem rtime_o3 (f l h d : Int) (w : World) (hc : 262 ≤ l) (h0 : 0 ≤ f) (h1 : f ≤ 1099511627776) (h2 : 0 ≤ l) :
    Calls Try.prog 10 #[beamV f l h d] w fun e w' => e = .returned (.tuple #[.int .i64 0, .bool false]) ∧ Below w.heap.size w w' := by
  go_enter Try.func10, Try.ntmps10
  go_wp2
  go_ret2
  exact ⟨rfl, by go_grown⟩

set_option maxHeartbeats 400000 in
theorem rtime_o4 (f l h d : Int) (w : World) (hc : h < 0) (h0 : 0 ≤ f) (h1 : f ≤ 1099511627776) (h2 : 0 ≤ l) (h3 : l < 262) :
    Calls Try.prog 10 #[beamV f l h d] w fun e w' => e = .returned (.tuple #[.int .i64 0, .bool false]) ∧ Below w.heap.size w w' := by
  go_enter Try.func10, Try.ntmps10
  go_wp2
  go_ret2
  exact ⟨rfl, by go_grown⟩

set_option maxHeartbeats 400000 in
theorem rtime_o5 (f l h d : Int) (w : World) (hc : 1364 ≤ h) (h0 : 0 ≤ f) (h1 : f ≤ 1099511627776) (h2 : 0 ≤ l) (h3 : l < 262) (h4 : 0 ≤ h) :
    Calls Try.prog 10 #[beamV f l h d] w fun e w' => e = .returned (.tuple #[.int .i64 0, .bool false]) ∧ Below w.heap.size w w' := by
  go_enter Try.func10, Try.ntmps10
  go_wp2
  go_ret2
  exact ⟨rfl, by go_grown⟩

theorem rtime_yes (f l h d : Int) (w : World) (hv : beamIs f l h d) :
    Calls Try.prog 10 #[beamV f l h d] w fun e w' => e = .returned (.tuple #[.int .i64 (f * 357368 + l * 1364 + h), .bool true]) ∧ Below w.heap.size w w' := by
  obtain ⟨h1, h2, h3, h4, h5, h6, h7⟩ := hv
  have k := rtime_y (f * 357368 + l * 1364 + h) w (by omega) h7
  rw [show (f * 357368 + l * 1364 + h) / 357368 = f by omega, show (f * 357368 + l * 1364 + h) % 357368 / 1364 = l by omega, show (f * 357368 + l * 1364 + h) % 1364 = h by omega, ← h6] at k
  exact k

theorem rtime_no (f l h d : Int) (w : World) (hv : ¬ beamIs f l h d) :
    Calls Try.prog 10 #[beamV f l h d] w fun e w' => e = .returned (.tuple #[.int .i64 0, .bool false]) ∧ Below w.heap.size w w' := by
  by_cases c0 : f < 0
  · exact rtime_o0 f l h d w c0 
  by_cases c1 : 1099511627776 < f
  · exact rtime_o1 f l h d w c1 (by omega)
  by_cases c2 : l < 0
  · exact rtime_o2 f l h d w c2 (by omega) (by omega)
  by_cases c3 : 262 ≤ l
  · exact rtime_o3 f l h d w c3 (by omega) (by omega) (by omega)
  by_cases c4 : h < 0
  · exact rtime_o4 f l h d w c4 (by omega) (by omega) (by omega) (by omega)
  by_cases c5 : 1364 ≤ h
  · exact rtime_o5 f l h d w c5 (by omega) (by omega) (by omega) (by omega) (by omega)
  by_cases c6 : 281474976710656 < (f * 262 + l) * 1364 + h
  · exact rtime_g _ f l h d w (by omega) (by omega) (by omega) (by omega) (by omega) (by omega) (Lib.hid rfl) c6
  · have hd : ¬ d = h / 4 := fun e => hv ⟨by omega, by omega, by omega, by omega, by omega, e, by omega⟩
    have k := rtime_d (f * 357368 + l * 1364 + h) d w (by omega) (by omega) (by rw [show (f * 357368 + l * 1364 + h) % 1364 = h by omega]; simp; omega)
    rw [show (f * 357368 + l * 1364 + h) / 357368 = f by omega, show (f * 357368 + l * 1364 + h) % 357368 / 1364 = l by omega, show (f * 357368 + l * 1364 + h) % 1364 = h by omega] at k
    exact k

end Go.Proofs.Ytjhicjmfdcipmaa
