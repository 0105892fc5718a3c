/- The walk of the law BeamOf. -/
import Derived.Test.YtjhicjmfdcipmaaBeamB
import Derived.ProofKit
namespace Go.Proofs.Ytjhicjmfdcipmaa.beamOf
open Go.RowKit Go.ChangeShapes

theorem ok_yes (t : Int) (w : World) (h0 : 0 ≤ t) (h1 : t ≤ 281474976710656) :
    Calls Try.prog 5 #[.int .i64 t] w fun e w' => e = .returned (.bool true) ∧ Below w.heap.size w w' := by
  go_enter Try.func5, Try.ntmps5
  go_wp2
  go_loopw [3] (fun v wr => ∃ k : Nat, k ≤ 2 ∧ v = .int .i64 k ∧ Below w.heap.size w wr) (fun v _ => 2 - (intOf v).toNat)
  case atStart => exact ⟨0, by omega, rfl, Below.refl _ _⟩
  case round =>
    obtain ⟨k, hk, rfl, hb⟩ := hrel
    by_cases c : k < 2
    · obtain ⟨b, eb⟩ : ∃ b : Bool, ((k : Int) == 1) = b := ⟨_, rfl⟩
      go_wp2_with (first | (go_at_call 14; refine (rBlank_yes t _ _ h0 h1).mono ?_; rintro e w1 ⟨rfl, hb1⟩) | (go_at_call 15; refine (blank_yes t _ _ h0 h1).mono ?_; rintro e w2 ⟨rfl, hb2⟩) | (go_at_call 17; refine (rLast_any _ _).mono ?_; rintro e w3 ⟨rfl, rfl⟩) | (go_at_call 16; refine (last_any _ _).mono ?_; rintro e w3 ⟨rfl, rfl⟩))
      exact ⟨⟨k + 1, by omega, by go_num, belowStep (belowStep hb hb1) hb2⟩, by simp [intOf]; omega⟩
    · go_wp2_with (first | (go_at_call 12; refine (beamOf_yes t _ h0 h1).mono ?_; rintro e w1 ⟨rfl, rfl⟩) | (go_at_call 18; refine (rOf_yes t _ h0 h1).mono ?_; rintro e w2 ⟨rfl, rfl⟩) | (go_at_call 13; refine (awake_true _).mono ?_; rintro e w3 ⟨rfl, rfl⟩))
      go_ret
      exact ⟨rfl, belowStep hb (by go_grown)⟩

theorem ok_no (t : Int) (w : World) (h : t < 0 ∨ 281474976710656 < t) :
    Calls Try.prog 5 #[.int .i64 t] w fun e w' => e = .returned (.bool true) ∧ Below w.heap.size w w' := by
  go_enter Try.func5, Try.ntmps5
  go_wp2
  go_loopw [3] (fun v wr => ∃ k : Nat, k ≤ 2 ∧ v = .int .i64 k ∧ Below w.heap.size w wr) (fun v _ => 2 - (intOf v).toNat)
  case atStart => exact ⟨0, by omega, rfl, Below.refl _ _⟩
  case round =>
    obtain ⟨k, hk, rfl, hb⟩ := hrel
    by_cases c : k < 2
    · go_wp2_with (first | (go_at_call 14; refine (rBlank_no t _ _ h).mono ?_; rintro e w1 ⟨rfl, rfl⟩) | (go_at_call 15; refine (blank_no t _ _ h).mono ?_; rintro e w2 ⟨rfl, rfl⟩) | (go_at_call 17; refine (rLast_any _ _).mono ?_; rintro e w3 ⟨rfl, rfl⟩) | (go_at_call 16; refine (last_any _ _).mono ?_; rintro e w3 ⟨rfl, rfl⟩))
      exact ⟨⟨k + 1, by omega, by go_num, hb⟩, by simp [intOf]; omega⟩
    · go_wp2_with (first | (go_at_call 12; refine (beamOf_no t _ h).mono ?_; rintro e w1 ⟨rfl, rfl⟩) | (go_at_call 18; refine (rOf_no t _ h).mono ?_; rintro e w2 ⟨rfl, rfl⟩) | (go_at_call 13; refine (awake_true _).mono ?_; rintro e w3 ⟨rfl, rfl⟩))
      go_ret
      exact ⟨rfl, belowStep hb (by go_grown)⟩

set_option maxRecDepth 100000 in
theorem walk (H : Type) (enc : TypeId × Value → H) (W : World) (base : Nat) (v0 : Value) {d0 : DataW H} {p0 : List MemPlace} (k0 : Value.okWide Try.prog W .any base 3 v0) (h0 : DataW.Trod enc Try.prog W 0 (fun _ => true) true 3 v0 d0 p0) :
    Calls Try.prog 5 #[v0] W fun e w' => e = .returned (.bool true) ∧ Below W.heap.size W w' := by
  obtain ⟨t, rfl, rfl, rfl, w0⟩ := open_int Try.underlying3 k0 h0
  by_cases c : t < 0 ∨ 281474976710656 < t
  · exact ok_no t W c
  · exact ok_yes t W (by omega) (by omega)

end Go.Proofs.Ytjhicjmfdcipmaa.beamOf
