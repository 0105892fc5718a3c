/- Contracts of Until. -/
import Derived.Test.YtjhicjmfdcipmaaBeamB
namespace Go.Proofs.Ytjhicjmfdcipmaa
open Go.RowKit

/-- How long it takes until the beam is there. -/
def untilIs (t line h d : Int) : Prop := 1 ≤ d ∧ (line < 0 → d ≤ 1364 ∧ (t + d) % 1364 = h) ∧ (0 ≤ line → d ≤ 357368 ∧ (t + d) % 357368 = h + line * 1364)
theorem untilIs_one {t line h d d' : Int} (a : untilIs t line h d) (b : untilIs t line h d') : d = d' := by
  obtain ⟨a1, a2, a3⟩ := a
  obtain ⟨b1, b2, b3⟩ := b
  by_cases hl : line < 0
  · have := a2 hl; have := b2 hl; omega
  · have := a3 (by omega); have := b3 (by omega); omega
def UntilP (t line h : Int) (w : World) (e : Ending) (w' : World) : Prop := ∃ d : Int, untilIs t line h d ∧ e = .returned (.tuple #[.int .i64 d, .bool true]) ∧ w = w'
def untilOk (t line h : Int) : Prop := 0 ≤ t ∧ t ≤ 281474976710656 ∧ 0 ≤ h ∧ h < 1364 ∧ line < 262

theorem until_neg (t line h : Int) (w : World) (t0 : 0 ≤ t) (t1 : t ≤ 281474976710656) (h0 : 0 ≤ h) (h1 : h < 1364) (hl : line < 0) :
    Calls Try.prog 20 #[.int .i64 t, .int .i64 line, .int .i64 h] w (UntilP t line h w) := by
  cases hd : ((h - t % 1364 + 1364) % 1364 == 0)
  all_goals
    go_enter Try.func20, Try.ntmps20
    go_wp2_with (go_at_call 33; refine (isTime_yes _ _ t0 t1).mono ?_; rintro e w' ⟨rfl, rfl⟩)
    go_ret2
    simp at hd
    exact ⟨_, ⟨by omega, by omega, by omega⟩, rfl, rfl⟩

theorem until_pos (t line h : Int) (w : World) (t0 : 0 ≤ t) (t1 : t ≤ 281474976710656) (h0 : 0 ≤ h) (h1 : h < 1364) (hl : 0 ≤ line) (hl1 : line < 262) :
    Calls Try.prog 20 #[.int .i64 t, .int .i64 line, .int .i64 h] w (UntilP t line h w) := by
  cases hd : ((h + line * 1364 - t % 357368 + 357368) % 357368 == 0)
  all_goals
    go_enter Try.func20, Try.ntmps20
    go_wp2_with (go_at_call 33; refine (isTime_yes _ _ t0 t1).mono ?_; rintro e w' ⟨rfl, rfl⟩)
    go_ret2
    simp at hd
    exact ⟨_, ⟨by omega, by omega, by omega⟩, rfl, rfl⟩

theorem until_yes (t line h : Int) (w : World) (hv : untilOk t line h) :
    Calls Try.prog 20 #[.int .i64 t, .int .i64 line, .int .i64 h] w (UntilP t line h w) := by
  obtain ⟨t0, t1, h0, h1, hl⟩ := hv
  by_cases c : line < 0
  · exact until_neg t line h w t0 t1 h0 h1 c
  · exact until_pos t line h w t0 t1 h0 h1 (by omega) hl

theorem until_no (t line h : Int) (w : World) (hv : ¬ untilOk t line h) :
    Calls Try.prog 20 #[.int .i64 t, .int .i64 line, .int .i64 h] w fun e w' => e = .returned (.tuple #[.int .i64 0, .bool false]) ∧ w = w' := by
  have hv' : (t < 0 ∨ 281474976710656 < t) ∨ h < 0 ∨ 1364 ≤ h ∨ 262 ≤ line := by
    unfold untilOk at hv; omega
  clear hv
  by_cases c0 : t < 0 ∨ 281474976710656 < t
  · clear hv'
    go_enter Try.func20, Try.ntmps20
    go_wp2_with (go_at_call 33; refine (isTime_no _ _ c0).mono ?_; rintro e w' ⟨rfl, rfl⟩)
    go_ret2
    exact ⟨rfl, rfl⟩
  have t0 : 0 ≤ t := by omega
  have t1 : t ≤ 281474976710656 := by omega
  have hv'' : h < 0 ∨ (0 ≤ h ∧ 1364 ≤ h) ∨ (0 ≤ h ∧ h < 1364 ∧ 262 ≤ line) := by omega
  clear hv' c0
  rcases hv'' with c | ⟨c1, c⟩ | ⟨c1, c2, c⟩
  all_goals
    go_enter Try.func20, Try.ntmps20
    go_wp2_with (go_at_call 33; refine (isTime_yes _ _ t0 t1).mono ?_; rintro e w' ⟨rfl, rfl⟩)
    go_ret2
    exact ⟨rfl, rfl⟩

theorem rUntil_no (t line h : Int) (w : World) (hv : ¬ untilOk t line h) :
    Calls Try.prog 19 #[.int .i64 t, .int .i64 line, .int .i64 h] w fun e w' => e = .returned (.tuple #[.int .i64 0, .bool false]) ∧ w = w' := by
  have hv' : (t < 0 ∨ 281474976710656 < t) ∨ h < 0 ∨ 1364 ≤ h ∨ 262 ≤ line := by
    unfold untilOk at hv; omega
  clear hv
  by_cases c0 : t < 0 ∨ 281474976710656 < t
  · clear hv'
    go_enter Try.func19, Try.ntmps19
    go_wp2_with (go_at_call 32; refine (rIs_no _ _ c0).mono ?_; rintro e w' ⟨rfl, rfl⟩)
    go_ret2
    exact ⟨rfl, rfl⟩
  have t0 : 0 ≤ t := by omega
  have t1 : t ≤ 281474976710656 := by omega
  have hv'' : h < 0 ∨ (0 ≤ h ∧ 1364 ≤ h) ∨ (0 ≤ h ∧ h < 1364 ∧ 262 ≤ line) := by omega
  clear hv' c0
  rcases hv'' with c | ⟨c1, c⟩ | ⟨c1, c2, c⟩
  all_goals
    go_enter Try.func19, Try.ntmps19
    go_wp2_with (go_at_call 32; refine (rIs_yes _ _ t0 t1).mono ?_; rintro e w' ⟨rfl, rfl⟩)
    go_ret2
    exact ⟨rfl, rfl⟩

theorem rUntil_neg (t line h D : Int) (w : World) (t0 : 0 ≤ t) (t1 : t ≤ 281474976710656) (h0 : 0 ≤ h) (h1 : h < 1364) (hl : line < 0) (D0 : 1 ≤ D) (D1 : D ≤ 1364) (HD : Hid ((t + D) % 1364 = h)) :
    Calls Try.prog 19 #[.int .i64 t, .int .i64 line, .int .i64 h] w fun e w' => e = .returned (.tuple #[.int .i64 D, .bool true]) ∧ w = w' := by
  go_enter Try.func19, Try.ntmps19
  go_wp2_with (go_at_call 32; refine (rIs_yes _ _ t0 t1).mono ?_; rintro e w' ⟨rfl, rfl⟩)
  go_loop [8] (fun v => ∃ d : Int, 1 ≤ d ∧ d ≤ D ∧ v = .int .i64 d) (fun v => (D - intOf v).toNat)
  case atStart => exact ⟨1, by omega, by omega, rfl⟩
  case round =>
    obtain ⟨d, d0, d1, rfl⟩ := hrel
    by_cases c : d = D
    · subst c
      have hb : ((t + d) % 1364 != h) = false := by have := HD.out; simp; omega
      go_wp2
      refine wp_loop_rounds 1 ?_
      rw [rounds_succ]
      go_wp2
      go_ret2
      exact ⟨rfl, rfl⟩
    · have c' : d < D := by omega
      clear c
      have hb : ((t + d) % 1364 != h) = true := by have := HD.out; simp; omega
      go_wp2
      go_round
      case rel => exact ⟨d + 1, by omega, by omega, rfl⟩
      case measure => simp [intOf]; omega

theorem rUntil_pos (t line h D E : Int) (w : World) (t0 : 0 ≤ t) (t1 : t ≤ 281474976710656) (h0 : 0 ≤ h) (h1 : h < 1364) (hl : 0 ≤ line) (hl1 : line < 262) (D0 : 1 ≤ D) (D1 : D ≤ 1364) (HD : Hid ((t + D) % 1364 = h))
    (E0 : 1 ≤ E) (E1 : E ≤ 357368) (HE : Hid ((t + E) % 357368 = h + line * 1364)) :
    Calls Try.prog 19 #[.int .i64 t, .int .i64 line, .int .i64 h] w fun e w' => e = .returned (.tuple #[.int .i64 E, .bool true]) ∧ w = w' := by
  go_enter Try.func19, Try.ntmps19
  go_wp2_with (go_at_call 32; refine (rIs_yes _ _ t0 t1).mono ?_; rintro e w' ⟨rfl, rfl⟩)
  go_loop [8] (fun v => ∃ d : Int, 1 ≤ d ∧ d ≤ D ∧ v = .int .i64 d) (fun v => (D - intOf v).toNat)
  case atStart => exact ⟨1, by omega, by omega, rfl⟩
  case round =>
    obtain ⟨d, d0, d1, rfl⟩ := hrel
    by_cases c : d = D
    · subst c
      have hb : ((t + d) % 1364 != h) = false := by have := HD.out; simp; omega
      go_wp2
      clear hb
      go_loop [8] (fun v => ∃ x : Int, 1 ≤ x ∧ x ≤ E ∧ (E - x) % 1364 = 0 ∧ v = .int .i64 x) (fun v => (E - intOf v).toNat)
      case atStart => exact ⟨d, by omega, by have := HD.out; have := HE.out; omega, by have := HD.out; have := HE.out; omega, rfl⟩
      case round =>
        obtain ⟨x, x0, x1, x2, rfl⟩ := hrel
        have X2 := Lib.hid x2
        clear x2
        by_cases c : x = E
        · subst c
          have hb : ((t + x) / 1364 % 262 != line) = false := by have := HE.out; simp; omega
          go_wp2
          go_ret2
          exact ⟨rfl, rfl⟩
        · have c' : x < E := by omega
          clear c
          have hb : ((t + x) / 1364 % 262 != line) = true := by have := HE.out; have := X2.out; simp; omega
          go_wp2
          go_round
          case rel => exact ⟨x + 1364, by omega, by have := X2.out; omega, by have := X2.out; omega, rfl⟩
          case measure => simp [intOf]; omega
    · have c' : d < D := by omega
      clear c
      have hb : ((t + d) % 1364 != h) = true := by have := HD.out; simp; omega
      go_wp2
      go_round
      case rel => exact ⟨d + 1, by omega, by omega, rfl⟩
      case measure => simp [intOf]; omega

theorem rUntil_yes (t line h : Int) (w : World) (hv : untilOk t line h) :
    Calls Try.prog 19 #[.int .i64 t, .int .i64 line, .int .i64 h] w (UntilP t line h w) := by
  obtain ⟨t0, t1, h0, h1, hl⟩ := hv
  obtain ⟨D, D0, D1, HD⟩ : ∃ D : Int, 1 ≤ D ∧ D ≤ 1364 ∧ (t + D) % 1364 = h := by
    by_cases c : (h - t) % 1364 = 0
    · exact ⟨1364, by omega, by omega, by omega⟩
    · exact ⟨(h - t) % 1364, by omega, by omega, by omega⟩
  by_cases c : line < 0
  · exact (rUntil_neg t line h D w t0 t1 h0 h1 c D0 D1 HD).mono fun e w' ⟨a, b⟩ => ⟨D, ⟨D0, fun _ => ⟨D1, HD⟩, fun _ => by omega⟩, a, b⟩
  · obtain ⟨E, E0, E1, HE⟩ : ∃ E : Int, 1 ≤ E ∧ E ≤ 357368 ∧ (t + E) % 357368 = h + line * 1364 := by
      by_cases c : (h + line * 1364 - t) % 357368 = 0
      · exact ⟨357368, by omega, by omega, by omega⟩
      · exact ⟨(h + line * 1364 - t) % 357368, by omega, by omega, by omega⟩
    exact (rUntil_pos t line h D E w t0 t1 h0 h1 (by omega) hl D0 D1 HD E0 E1 HE).mono fun e w' ⟨a, b⟩ => ⟨E, ⟨E0, fun _ => by omega, fun _ => ⟨E1, HE⟩⟩, a, b⟩

end Go.Proofs.Ytjhicjmfdcipmaa
