/- The walks of the laws BeamTimes, BeamUntil, BeamBetween, BeamWhole. -/
import Derived.Test.YtjhicjmfdcipmaaBeamC
import Derived.Test.YtjhicjmfdcipmaaBeamD
import Derived.ProofKit
import Derived.Lib.SmallJoins
namespace Go.Proofs.Ytjhicjmfdcipmaa
open Go.RowKit Go.ChangeShapes

/-- awake, and Of, as quiet callees. -/
theorem awakeB (w : World) : Calls Try.prog 13 #[] w fun e w' => e = .returned (.bool true) ∧ Below w.heap.size w w' :=
  (awake_true w).mono fun _ _ ⟨a, b⟩ => ⟨a, b ▸ (Below.refl _ _).alloc (Nat.le_refl _) _⟩
theorem ofB (t : Int) (w : World) (h0 : 0 ≤ t) (h1 : t ≤ 281474976710656) : Calls Try.prog 12 #[.int .i64 t] w fun e w' => e = .returned (beamV (t / 357368) (t % 357368 / 1364) (t % 1364) (t % 1364 / 4)) ∧ Below w.heap.size w w' :=
  (beamOf_yes t w h0 h1).mono fun _ _ ⟨a, b⟩ => ⟨a, b ▸ (Below.refl _ _).alloc (Nat.le_refl _) _⟩

namespace beamTimes
set_option maxRecDepth 100000 in
set_option maxHeartbeats 400000 in
theorem yes (f l h d : Int) (w : World) (hv : beamIs f l h d) :
    Calls Try.prog 3 #[beamV f l h d] w fun e w' => e = .returned (.bool true) ∧ Below w.heap.size w w' := by
  obtain ⟨t, e⟩ : ∃ t, t = f * 357368 + l * 1364 + h := ⟨_, rfl⟩
  have hv' := hv
  obtain ⟨a1, a2, a3, a4, a5, a6, a7⟩ := hv'
  have t0 : 0 ≤ t := by omega
  have t1 : t ≤ 281474976710656 := by omega
  have OF := fun w => ofB t w t0 t1
  rw [show t / 357368 = f by omega, show t % 357368 / 1364 = l by omega, show t % 1364 = h by omega, ← a6] at OF
  rw [e] at OF
  have HO := Lib.hid OF
  clear OF a1 a2 a3 a4 a5 a6 a7 e t0 t1
  have HV := Lib.hid hv
  clear hv
  go_enter Try.func3, Try.ntmps3
  go_wp2_with (first | (go_at_call 10; refine (rtime_yes _ _ _ _ _ HV.out).mono ?_; rintro e w1 ⟨rfl, hb1⟩; obtain ⟨x1, rfl⟩ := more_of_below hb1; clear hb1) | (go_at_call 11; refine (time_yes _ _ _ _ _ HV.out).mono ?_; rintro e w1 ⟨rfl, hb1⟩; obtain ⟨x1, rfl⟩ := more_of_below hb1; clear hb1))
  refine wp_region_more (by kernel_rfl) (by kernel_rfl) ?_
  repeat (go_big_quiet_step (first | (go_at_call 12; exact quiet_more (HO.out _)) | (go_at_call 13; exact quiet_more (awakeB _))))
  refine wpQuiet_nil ?_
  rintro _ ⟨nq, rfl⟩
  go_wp2
  go_ret
  exact ⟨rfl, by repeat (first | exact Below.refl _ _ | apply belowM | apply belowA)⟩

set_option maxRecDepth 100000 in
set_option maxHeartbeats 400000 in
theorem no (f l h d : Int) (w : World) (hv : ¬ beamIs f l h d) :
    Calls Try.prog 3 #[beamV f l h d] w fun e w' => e = .returned (.bool true) ∧ Below w.heap.size w w' := by
  have HV := Lib.hid hv
  clear hv
  go_enter Try.func3, Try.ntmps3
  go_wp2_with (first | (go_at_call 10; refine (rtime_no _ _ _ _ _ HV.out).mono ?_; rintro e w1 ⟨rfl, hb1⟩; obtain ⟨x1, rfl⟩ := more_of_below hb1; clear hb1) | (go_at_call 11; refine (time_no _ _ _ _ _ HV.out).mono ?_; rintro e w1 ⟨rfl, hb1⟩; obtain ⟨x1, rfl⟩ := more_of_below hb1; clear hb1))
  refine wp_region_more (by kernel_rfl) (by kernel_rfl) ?_
  repeat (go_big_quiet_step ((go_at_call 13; exact quiet_more (awakeB _))))
  refine wpQuiet_nil ?_
  rintro _ ⟨nq, rfl⟩
  go_wp2
  go_ret
  exact ⟨rfl, by repeat (first | exact Below.refl _ _ | apply belowM | apply belowA)⟩

set_option maxRecDepth 100000 in
theorem walk (H : Type) (enc : TypeId × Value → H) (W : World) (base : Nat) (v0 : Value) {d0 : DataW H} {p0 : List MemPlace} (k0 : Value.okWide Try.prog W .any base 23 v0) (h0 : DataW.Trod enc Try.prog W 0 (fun _ => true) true 23 v0 d0 p0) :
    Calls Try.prog 3 #[v0] W fun e w' => e = .returned (.bool true) ∧ Below W.heap.size W w' := by
  obtain ⟨c0, c1, c2, c3, y0, y1, y2, y3, m, rfl, rfl, rfl, hy0, hy1, hy2, hy3⟩ := Go.Joins.open_agg4 Try.underlying23 (by kernel_rfl) (by kernel_rfl) k0 h0
  obtain ⟨f, e0, rfl, _⟩ := DataW.trod_int Try.underlying3 hy0
  obtain ⟨l, e1, rfl, _⟩ := DataW.trod_int Try.underlying3 hy1
  obtain ⟨h, e2, rfl, _⟩ := DataW.trod_int Try.underlying3 hy2
  obtain ⟨d, e3, rfl, _⟩ := DataW.trod_int Try.underlying3 hy3
  simp at e0 e1 e2 e3
  subst e0 e1 e2 e3
  by_cases c : beamIs f l h d
  · exact yes f l h d W c
  · exact no f l h d W c
end beamTimes

namespace beamUntil
theorem yes (t l h : Int) (w : World) (hv : untilOk t l h) :
    Calls Try.prog 6 #[.int .i64 t, .int .i64 l, .int .i64 h] w fun e w' => e = .returned (.bool true) ∧ Below w.heap.size w w' := by
  have HV := Lib.hid hv
  clear hv
  go_enter Try.func6, Try.ntmps6
  go_wp2_with fail
  refine (rUntil_yes _ _ _ _ HV.out).mono ?_
  rintro e w' ⟨d, hd, rfl, rfl⟩
  have HD := Lib.hid hd
  clear hd
  go_wp2_with fail
  refine (until_yes _ _ _ _ HV.out).mono ?_
  rintro e w' ⟨d', hd', rfl, rfl⟩
  obtain rfl := untilIs_one HD.out hd'
  clear hd'
  go_wp2_with (go_at_call 13; refine (awake_true _).mono ?_; rintro e w3 ⟨rfl, rfl⟩)
  go_ret
  exact ⟨rfl, by repeat (first | exact Below.refl _ _ | apply belowM | apply belowA)⟩
theorem no (t l h : Int) (w : World) (hv : ¬ untilOk t l h) :
    Calls Try.prog 6 #[.int .i64 t, .int .i64 l, .int .i64 h] w fun e w' => e = .returned (.bool true) ∧ Below w.heap.size w w' := by
  have HV := Lib.hid hv
  clear hv
  go_enter Try.func6, Try.ntmps6
  go_wp2_with (first | (go_at_call 19; refine (rUntil_no _ _ _ _ HV.out).mono ?_; rintro e w' ⟨rfl, rfl⟩) | (go_at_call 20; refine (until_no _ _ _ _ HV.out).mono ?_; rintro e w' ⟨rfl, rfl⟩) | (go_at_call 13; refine (awake_true _).mono ?_; rintro e w3 ⟨rfl, rfl⟩))
  go_ret
  exact ⟨rfl, by repeat (first | exact Below.refl _ _ | apply belowM | apply belowA)⟩
set_option maxRecDepth 100000 in
theorem walk (H : Type) (enc : TypeId × Value → H) (W : World) (base : Nat) (v0 v1 v2 : Value) {d0 d1 d2 : DataW H} {p0 p1 p2 : List MemPlace} (k0 : Value.okWide Try.prog W .any base 3 v0) (h0 : DataW.Trod enc Try.prog W 0 (fun _ => true) true 3 v0 d0 p0)
    (k1 : Value.okWide Try.prog W .any base 3 v1) (h1 : DataW.Trod enc Try.prog W 0 (fun _ => true) true 3 v1 d1 p1) (k2 : Value.okWide Try.prog W .any base 3 v2) (h2 : DataW.Trod enc Try.prog W 0 (fun _ => true) true 3 v2 d2 p2) :
    Calls Try.prog 6 #[v0, v1, v2] W fun e w' => e = .returned (.bool true) ∧ Below W.heap.size W w' := by
  obtain ⟨t, rfl, rfl, rfl, _⟩ := open_int Try.underlying3 k0 h0
  obtain ⟨l, rfl, rfl, rfl, _⟩ := open_int Try.underlying3 k1 h1
  obtain ⟨h, rfl, rfl, rfl, _⟩ := open_int Try.underlying3 k2 h2
  by_cases c : untilOk t l h
  · exact yes t l h W c
  · exact no t l h W c
end beamUntil

end Go.Proofs.Ytjhicjmfdcipmaa
