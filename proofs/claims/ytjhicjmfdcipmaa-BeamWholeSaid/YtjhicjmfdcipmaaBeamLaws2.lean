/- The walks of the laws BeamBetween, BeamWhole. -/
import Derived.Test.YtjhicjmfdcipmaaBeamLaws
namespace Go.Proofs.Ytjhicjmfdcipmaa
open Go.RowKit Go.ChangeShapes

namespace beamBetween
theorem late (t l h b : Int) (w : World) (ht : 357368000 < t) :
    Calls Try.prog 7 #[.int .i64 t, .int .i64 l, .int .i64 h, .int .i64 b] w fun e w' => e = .returned (.bool true) ∧ Below w.heap.size w w' := by
  go_enter Try.func7, Try.ntmps7
  go_wp2_with (go_at_call 13; refine (awake_true _).mono ?_; rintro e w3 ⟨rfl, rfl⟩)
  go_ret
  exact ⟨rfl, by repeat (first | exact Below.refl _ _ | apply belowM | apply belowA)⟩

theorem no (t l h b : Int) (w : World) (ht : t ≤ 357368000) (hv : ¬ untilOk t l h) :
    Calls Try.prog 7 #[.int .i64 t, .int .i64 l, .int .i64 h, .int .i64 b] w fun e w' => e = .returned (.bool true) ∧ Below w.heap.size w w' := by
  have hc : t < 0 ∨ (0 ≤ t ∧ h < 0) ∨ (0 ≤ t ∧ 0 ≤ h ∧ 1364 ≤ h) ∨ (0 ≤ t ∧ 0 ≤ h ∧ h < 1364 ∧ 262 ≤ l) := by unfold untilOk at hv; omega
  have HV := Lib.hid hv
  clear hv
  rcases hc with c | ⟨c, d⟩ | ⟨c, d, f⟩ | ⟨c, d, f, g⟩
  all_goals
    go_enter Try.func7, Try.ntmps7
    go_wp2_with (first | (go_at_call 20; refine (until_no _ _ _ _ HV.out).mono ?_; rintro e w' ⟨rfl, rfl⟩) | (go_at_call 13; refine (awake_true _).mono ?_; rintro e w3 ⟨rfl, rfl⟩))
    go_ret
    exact ⟨rfl, by repeat (first | exact Below.refl _ _ | apply belowM | apply belowA)⟩

/-- Behind Until the beam is there: the contract of Of, as the walk wants it. -/
theorem ofAt (x F L h D : Int) (w : World) (h0 : 0 ≤ x) (h1 : x ≤ 281474976710656) (e1 : x / 357368 = F) (e2 : x % 357368 / 1364 = L) (e3 : x % 1364 = h) (e4 : x % 1364 / 4 = D) :
    Calls Try.prog 12 #[.int .i64 x] w fun e w' => e = .returned (beamV F L h D) ∧ w.alloc (beamO F L h D) = w' := by
  subst e1 e2 e3 e4
  exact beamOf_yes x w h0 h1

set_option maxHeartbeats 400000 in
theorem short (t l h b d F L D : Int) (w : World) (ht : t ≤ 357368000) (h0 : 0 ≤ t) (d0 : 1 ≤ d) (d1 : d ≤ 357368) (hL : l < 0 ∨ (0 ≤ l ∧ L = l)) (hb : b < 1 ∨ (1 ≤ b ∧ d ≤ b))
    (hU : ∀ w, Calls Try.prog 20 #[.int .i64 t, .int .i64 l, .int .i64 h] w fun e w' => e = .returned (.tuple #[.int .i64 d, .bool true]) ∧ w = w')
    (hO : ∀ w, Calls Try.prog 12 #[.int .i64 (t + d)] w fun e w' => e = .returned (beamV F L h D) ∧ w.alloc (beamO F L h D) = w') :
    Calls Try.prog 7 #[.int .i64 t, .int .i64 l, .int .i64 h, .int .i64 b] w fun e w' => e = .returned (.bool true) ∧ Below w.heap.size w w' := by
  have HU := Lib.hid hU
  have HO := Lib.hid hO
  clear hU hO
  rcases hL with c | ⟨c, rfl⟩ <;> rcases hb with g | ⟨f, g⟩
  all_goals
    go_enter Try.func7, Try.ntmps7
    go_wp2_with (first | (go_at_call 20; refine (HU.out _).mono ?_; rintro e w' ⟨rfl, rfl⟩) | (go_at_call 12; refine (HO.out _).mono ?_; rintro e w' ⟨rfl, rfl⟩) | (go_at_call 13; refine (awake_true _).mono ?_; rintro e w3 ⟨rfl, rfl⟩))
    go_ret
    exact ⟨rfl, by repeat (first | exact Below.refl _ _ | apply belowM | apply belowA)⟩

set_option maxHeartbeats 400000 in
theorem between (t l h b d F L D F' L' h' D' : Int) (w : World) (ht : t ≤ 357368000) (h0 : 0 ≤ t) (d0 : 1 ≤ d) (d1 : d ≤ 357368) (b0 : 1 ≤ b) (b1 : b < d)
    (hL : (l < 0 ∧ (h' != h) = true) ∨ (0 ≤ l ∧ L = l ∧ (h' != h) = true) ∨ (0 ≤ l ∧ L = l ∧ h' = h ∧ (L' != l) = true))
    (hU : ∀ w, Calls Try.prog 20 #[.int .i64 t, .int .i64 l, .int .i64 h] w fun e w' => e = .returned (.tuple #[.int .i64 d, .bool true]) ∧ w = w')
    (hO : ∀ w, Calls Try.prog 12 #[.int .i64 (t + d)] w fun e w' => e = .returned (beamV F L h D) ∧ w.alloc (beamO F L h D) = w')
    (hP : ∀ w, Calls Try.prog 12 #[.int .i64 (t + b)] w fun e w' => e = .returned (beamV F' L' h' D') ∧ w.alloc (beamO F' L' h' D') = w') :
    Calls Try.prog 7 #[.int .i64 t, .int .i64 l, .int .i64 h, .int .i64 b] w fun e w' => e = .returned (.bool true) ∧ Below w.heap.size w w' := by
  have HU := Lib.hid hU
  have HO := Lib.hid hO
  have HP := Lib.hid hP
  clear hU hO hP
  rcases hL with ⟨c, g⟩ | ⟨c, rfl, g⟩ | ⟨c, rfl, rfl, g⟩
  all_goals
    go_enter Try.func7, Try.ntmps7
    go_wp2_with fail
    refine (HU.out _).mono ?_
    rintro e w' ⟨rfl, rfl⟩
    go_wp2_with fail
    refine (HO.out _).mono ?_
    rintro e w' ⟨rfl, rfl⟩
    go_wp2_with fail
    refine (HP.out _).mono ?_
    rintro e w' ⟨rfl, rfl⟩
    go_wp2_with (go_at_call 13; refine (awake_true _).mono ?_; rintro e w3 ⟨rfl, rfl⟩)
    go_ret
    exact ⟨rfl, by repeat (first | exact Below.refl _ _ | apply belowM | apply belowA)⟩

theorem yes (t l h b : Int) (w : World) (ht : t ≤ 357368000) (hv : untilOk t l h) :
    Calls Try.prog 7 #[.int .i64 t, .int .i64 l, .int .i64 h, .int .i64 b] w fun e w' => e = .returned (.bool true) ∧ Below w.heap.size w w' := by
  obtain ⟨t0, t1, h0, h1, hl⟩ := hv
  obtain ⟨d, ⟨a1, a2, a3⟩⟩ : ∃ d, untilIs t l h d := by
    by_cases c : l < 0
    · by_cases z : (h - t) % 1364 = 0
      · exact ⟨1364, by omega, by omega, by omega⟩
      · exact ⟨(h - t) % 1364, by omega, by omega, by omega⟩
    · by_cases z : (h + l * 1364 - t) % 357368 = 0
      · exact ⟨357368, by omega, by omega, by omega⟩
      · exact ⟨(h + l * 1364 - t) % 357368, by omega, by omega, by omega⟩
  have hU : ∀ w, Calls Try.prog 20 #[.int .i64 t, .int .i64 l, .int .i64 h] w fun e w' => e = .returned (.tuple #[.int .i64 d, .bool true]) ∧ w = w' := fun w =>
    (until_yes t l h w ⟨t0, t1, h0, h1, hl⟩).mono fun e w' ⟨d', hd', he, hw⟩ => by
      have := untilIs_one hd' ⟨a1, a2, a3⟩
      subst this
      exact ⟨he, hw⟩
  have hd : d ≤ 357368 := by
    by_cases c : l < 0
    · have := a2 c; omega
    · have := a3 (by omega); omega
  have hH : (t + d) % 1364 = h := by
    by_cases c : l < 0
    · have := a2 c; omega
    · have := a3 (by omega); omega
  have hO := fun w => ofAt (t + d) _ _ h _ w (by omega) (by omega) rfl rfl hH rfl
  by_cases cb : b < 1 ∨ (1 ≤ b ∧ d ≤ b)
  · refine short t l h b d _ _ _ w ht t0 a1 hd ?_ cb hU hO
    by_cases c : l < 0
    · exact Or.inl c
    · exact Or.inr ⟨by omega, by have := a3 (by omega); omega⟩
  · have hP := fun w => ofAt (t + b) _ _ _ _ w (by omega) (by omega) rfl rfl rfl rfl
    refine between t l h b d _ _ _ _ _ _ _ w ht t0 a1 hd (by omega) (by omega) ?_ hU hO hP
    by_cases c : l < 0
    · exact Or.inl ⟨c, by have := a2 c; simp; omega⟩
    · have k := a3 (by omega)
      by_cases z : (t + b) % 1364 = h
      · exact Or.inr (Or.inr ⟨by omega, by omega, z, by simp; omega⟩)
      · exact Or.inr (Or.inl ⟨by omega, by omega, by simp; omega⟩)

set_option maxRecDepth 100000 in
theorem walk (H : Type) (enc : TypeId × Value → H) (W : World) (base : Nat) (v0 v1 v2 v3 : Value) {d0 d1 d2 d3 : DataW H} {p0 p1 p2 p3 : List MemPlace} (k0 : Value.okWide Try.prog W .any base 3 v0) (h0 : DataW.Trod enc Try.prog W 0 (fun _ => true) true 3 v0 d0 p0)
    (k1 : Value.okWide Try.prog W .any base 3 v1) (h1 : DataW.Trod enc Try.prog W 0 (fun _ => true) true 3 v1 d1 p1) (k2 : Value.okWide Try.prog W .any base 3 v2) (h2 : DataW.Trod enc Try.prog W 0 (fun _ => true) true 3 v2 d2 p2)
    (k3 : Value.okWide Try.prog W .any base 3 v3) (h3 : DataW.Trod enc Try.prog W 0 (fun _ => true) true 3 v3 d3 p3) :
    Calls Try.prog 7 #[v0, v1, v2, v3] W fun e w' => e = .returned (.bool true) ∧ Below W.heap.size W w' := by
  obtain ⟨t, rfl, rfl, rfl, _⟩ := open_int Try.underlying3 k0 h0
  obtain ⟨l, rfl, rfl, rfl, _⟩ := open_int Try.underlying3 k1 h1
  obtain ⟨h, rfl, rfl, rfl, _⟩ := open_int Try.underlying3 k2 h2
  obtain ⟨b, rfl, rfl, rfl, _⟩ := open_int Try.underlying3 k3 h3
  by_cases ct : 357368000 < t
  · exact late t l h b W ct
  by_cases c : untilOk t l h
  · exact yes t l h b W (by omega) c
  · exact no t l h b W (by omega) c
end beamBetween

namespace beamWhole
theorem out (t : Int) (w : World) (h : t < 0 ∨ 281474976710656 < t) :
    Calls Try.prog 4 #[.int .i64 t] w fun e w' => e = .returned (.bool true) ∧ Below w.heap.size w w' := by
  have HV := Lib.hid h
  have ce : (t == 281474976710656) = false := by simp; omega
  have c2 : t < 0 ∨ (0 ≤ t ∧ 281474976710656 ≤ t) := by omega
  clear h
  rcases c2 with c2 | ⟨c2, c3⟩
  all_goals
    go_enter Try.func4, Try.ntmps4
    go_wp2_with (first | (go_at_call 12; refine (beamOf_no _ _ HV.out).mono ?_; rintro e w' ⟨rfl, rfl⟩) | (go_at_call 13; refine (awake_true _).mono ?_; rintro e w3 ⟨rfl, rfl⟩))
    go_ret
    exact ⟨rfl, by repeat (first | exact Below.refl _ _ | apply belowM | apply belowA)⟩

theorem top (w : World) :
    Calls Try.prog 4 #[.int .i64 281474976710656] w fun e w' => e = .returned (.bool true) ∧ Below w.heap.size w w' := by
  go_enter Try.func4, Try.ntmps4
  go_wp2_with (first | (go_at_call 12; refine (beamOf_yes _ _ (by decide) (by decide)).mono ?_; rintro e w' ⟨rfl, rfl⟩) | (go_at_call 13; refine (awake_true _).mono ?_; rintro e w3 ⟨rfl, rfl⟩))
  go_ret
  exact ⟨rfl, by repeat (first | exact Below.refl _ _ | apply belowM | apply belowA)⟩

set_option maxRecDepth 100000 in
set_option maxHeartbeats 1000000 in
theorem inn (F L h F' L' h' D' : Int) (w : World) (h0 : 0 ≤ (F * 262 + L) * 1364 + h) (h1 : (F * 262 + L) * 1364 + h < 281474976710656) (f0 : 0 ≤ F) (f1 : F ≤ 787633410) (l0 : 0 ≤ L) (l1 : L < 262) (q0 : 0 ≤ h) (q1 : h < 1364)
    (hO : ∀ w, Calls Try.prog 12 #[.int .i64 ((F * 262 + L) * 1364 + h)] w fun e w' => e = .returned (beamV F L h (h / 4)) ∧ w.alloc (beamO F L h (h / 4)) = w')
    (hT : ∀ w, Calls Try.prog 11 #[beamV F L h (h / 4)] w fun e w' => e = .returned (.tuple #[.int .i64 ((F * 262 + L) * 1364 + h), .bool true]) ∧ Below w.heap.size w w')
    (hP : ∀ w, Calls Try.prog 12 #[.int .i64 ((F * 262 + L) * 1364 + h + 1)] w fun e w' => e = .returned (beamV F' L' h' D') ∧ w.alloc (beamO F' L' h' D') = w')
    (hc : (h' = h + 1 ∧ L' = L ∧ F' = F) ∨ (h' = 0 ∧ (0 == h + 1) = false ∧ L' = L + 1 ∧ F' = F) ∨ (h' = 0 ∧ (0 == h + 1) = false ∧ L' = 0 ∧ (0 == L + 1) = false ∧ F' = F + 1)) :
    Calls Try.prog 4 #[.int .i64 ((F * 262 + L) * 1364 + h)] w fun e w' => e = .returned (.bool true) ∧ Below w.heap.size w w' := by
  have HO := Lib.hid hO
  have HP := Lib.hid hP
  have HT := Lib.hid hT
  clear hO hP hT
  rcases hc with ⟨rfl, rfl, rfl⟩ | ⟨rfl, c1, rfl, rfl⟩ | ⟨rfl, c1, rfl, c2, rfl⟩
  all_goals
    go_enter Try.func4, Try.ntmps4
    simp only [List.append_eq, List.cons_append, List.nil_append]
    go_wp2_with fail
    refine (HO.out _).mono ?_
    rintro e w' ⟨rfl, rfl⟩
    go_wp2_with fail
    refine (HT.out _).mono ?_
    rintro e w' ⟨rfl, hb⟩
    obtain ⟨x, rfl⟩ := more_of_below hb
    clear hb
    go_wp2_with fail
    refine (HP.out _).mono ?_
    rintro e w' ⟨rfl, rfl⟩
    go_wp2_with (go_at_call 13; refine (awake_true _).mono ?_; rintro e w3 ⟨rfl, rfl⟩)
    go_ret
    exact ⟨rfl, by repeat (first | exact Below.refl _ _ | apply belowM | apply belowA)⟩

theorem yes (t : Int) (w : World) (h0 : 0 ≤ t) (h1 : t < 281474976710656) :
    Calls Try.prog 4 #[.int .i64 t] w fun e w' => e = .returned (.bool true) ∧ Below w.heap.size w w' := by
  obtain ⟨F, hF⟩ : ∃ F, F = t / 357368 := ⟨_, rfl⟩
  obtain ⟨L, hL⟩ : ∃ L, L = t % 357368 / 1364 := ⟨_, rfl⟩
  obtain ⟨h, hh⟩ : ∃ h, h = t % 1364 := ⟨_, rfl⟩
  have E : t = (F * 262 + L) * 1364 + h := by omega
  have hO : ∀ w, Calls Try.prog 12 #[.int .i64 ((F * 262 + L) * 1364 + h)] w fun e w' => e = .returned (beamV F L h (h / 4)) ∧ w.alloc (beamO F L h (h / 4)) = w' := fun w =>
    beamBetween.ofAt _ _ _ _ _ w (by omega) (by omega) (by omega) (by omega) (by omega) (by omega)
  have hT : ∀ w, Calls Try.prog 11 #[beamV F L h (h / 4)] w fun e w' => e = .returned (.tuple #[.int .i64 ((F * 262 + L) * 1364 + h), .bool true]) ∧ Below w.heap.size w w' := fun w => by
    have k := time_yes F L h (h / 4) w ⟨by omega, by omega, by omega, by omega, by omega, rfl, by omega⟩
    rw [show F * 357368 + L * 1364 + h = (F * 262 + L) * 1364 + h by omega] at k
    exact k
  have hP := fun (F' L' h' : Int) (e1 : (t + 1) / 357368 = F') (e2 : (t + 1) % 357368 / 1364 = L') (e3 : (t + 1) % 1364 = h') w => beamBetween.ofAt (t + 1) F' L' h' _ w (by omega) (by omega) e1 e2 e3 rfl
  rw [E] at hP ⊢
  by_cases c1 : h + 1 < 1364
  · exact inn F L h F L (h + 1) _ w (by omega) (by omega) (by omega) (by omega) (by omega) (by omega) (by omega) (by omega) hO hT (hP F L (h + 1) (by omega) (by omega) (by omega)) (Or.inl ⟨rfl, rfl, rfl⟩)
  by_cases c2 : L + 1 < 262
  · exact inn F L h F (L + 1) 0 _ w (by omega) (by omega) (by omega) (by omega) (by omega) (by omega) (by omega) (by omega) hO hT (hP F (L + 1) 0 (by omega) (by omega) (by omega)) (Or.inr (Or.inl ⟨rfl, by simp; omega, rfl, rfl⟩))
  · exact inn F L h (F + 1) 0 0 _ w (by omega) (by omega) (by omega) (by omega) (by omega) (by omega) (by omega) (by omega) hO hT (hP (F + 1) 0 0 (by omega) (by omega) (by omega)) (Or.inr (Or.inr ⟨rfl, by simp; omega, rfl, by simp; omega, rfl⟩))

set_option maxRecDepth 100000 in
theorem walk (H : Type) (enc : TypeId × Value → H) (W : World) (base : Nat) (v0 : Value) {d0 : DataW H} {p0 : List MemPlace} (k0 : Value.okWide Try.prog W .any base 3 v0) (h0 : DataW.Trod enc Try.prog W 0 (fun _ => true) true 3 v0 d0 p0) :
    Calls Try.prog 4 #[v0] W fun e w' => e = .returned (.bool true) ∧ Below W.heap.size W w' := by
  obtain ⟨t, rfl, rfl, rfl, _⟩ := open_int Try.underlying3 k0 h0
  by_cases c : t < 0 ∨ 281474976710656 < t
  · exact out t W c
  by_cases ct : t = 281474976710656
  · subst ct; exact top W
  · exact yes t W (by omega) (by omega)
end beamWhole

end Go.Proofs.Ytjhicjmfdcipmaa
