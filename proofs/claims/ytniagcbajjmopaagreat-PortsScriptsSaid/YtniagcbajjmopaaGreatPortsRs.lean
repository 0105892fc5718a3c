/- ports, the document's unit: flag, next, state. ports, the document's Read. -/
import Derived.Test.YtniagcbajjmopaaGreatPortsRa
import Derived.Test.YtniagcbajjmopaaGreatPortsRc
namespace Go.Proofs.YtniagcbajjmopaaGreat
open Go.RowKit
set_option linter.unusedVariables false
set_option linter.unusedSimpArgs false
set_option maxRecDepth 100000
set_option maxHeartbeats 1000000 in
theorem dflag_any (b : Bool) (w : World) : Calls Tryz.prog 43 #[.bool b] w (fun e w' => e = .returned (.int .u8 (flagV b)) ∧ w = w') := by
  cases b
  all_goals
    go_enter Tryz.func43, Tryz.ntmps43
    go_wp2_with fail
    go_ret
    exact ⟨rfl, by first | rfl | trivial⟩
section
variable {w : World} {B g : Nat} {s : Pt}
set_option maxHeartbeats 2000000 in
theorem dnextH_0 (K : Dp w B s) (h : s.held = true) (s0 : 0 ≤ s.say0) (s1 : s.say0 ≤ 65535) :
    Calls Tryz.prog 42 #[dpP B, .int .i64 0] w (fun e w' => e = .returned (.int .u8 (s.say0 / 32768)) ∧ w = w') := by
  have c19 : w.cell? ⟨B, 19, none⟩ = some (.bool s.held) := K.cell 19
  have c13 : w.cell? ⟨B, 13, none⟩ = some (.int .u16 s.say0) := K.cell 13
  rw [h] at c19
  obtain ⟨x, hx⟩ : ∃ x, s.say0 = x := ⟨_, rfl⟩
  rw [hx] at c13 s0 s1 ⊢
  have e1 : x.tdiv 32768 = x / 32768 := Int.tdiv_eq_ediv_of_nonneg s0
  have w1 : IntKind.u16.wrap (x / 32768) = x / 32768 := by rw [IntKind.wrap_u16]; omega
  have w2 : IntKind.u8.wrap (x / 32768) = x / 32768 := by rw [IntKind.wrap_u8]; omega
  have w3 : x / 32768 % 256 = x / 32768 := by omega
  clear K h hx
  go_enter Tryz.func42, Tryz.ntmps42
  go_wp2_with fail
  go_ret
  exact ⟨by first | rfl | simp [e1, w1, w2, w3], by first | rfl | trivial⟩
set_option maxHeartbeats 2000000 in
theorem dnext_0 (K : Dp w B s) (h : s.held = false) (s0 : 0 ≤ s.shift0) (s1 : s.shift0 ≤ 65535) :
    Calls Tryz.prog 42 #[dpP B, .int .i64 0] w (DW w B { s with shift0 := s.shift0 * 2 % 65536 + 1 } (.int .u8 (s.shift0 / 32768))) := by
  have c19 : w.cell? ⟨B, 19, none⟩ = some (.bool s.held) := K.cell 19
  have c17 : w.cell? ⟨B, 17, none⟩ = some (.int .u16 s.shift0) := K.cell 17
  have f17 := K.frozen 17
  rw [h] at c19
  obtain ⟨x, hx⟩ : ∃ x, s.shift0 = x := ⟨_, rfl⟩
  rw [hx] at c17 s0 s1 ⊢
  have A2 : Hid (Dp (w.setCell ⟨B, 17, none⟩ (.int .u16 (x * 2 % 65536 + 1))) B { s with shift0 := x * 2 % 65536 + 1 }) := Lib.hid (K.set_ 17 _)
  have e1 : x.tdiv 32768 = x / 32768 := Int.tdiv_eq_ediv_of_nonneg s0
  have w1 : IntKind.u16.wrap (x / 32768) = x / 32768 := by rw [IntKind.wrap_u16]; omega
  have w2 : IntKind.u8.wrap (x / 32768) = x / 32768 := by rw [IntKind.wrap_u8]; omega
  have w3 : x / 32768 % 256 = x / 32768 := by omega
  have w4 : IntKind.u16.wrap (IntKind.u16.wrap (x * 2) + 1) = x * 2 % 65536 + 1 := by rw [IntKind.wrap_u16, IntKind.wrap_u16]; omega
  have w5 : IntKind.u16.wrap (x * 2 % 65536 + 1) = x * 2 % 65536 + 1 := by rw [IntKind.wrap_u16]; omega
  clear K h hx
  go_enter Tryz.func42, Tryz.ntmps42
  go_wp2_with fail
  go_region_with (fail)
  all_goals
    go_wp2_with fail
    go_ret
    exact ⟨by first | rfl | simp [e1, w1, w2, w3], by first | exact A2.out | (rw [w4]; exact A2.out), by first | exact ((Upd.refl _ _).set _ _).drew | exact (Upd.refl _ _).drew.set _ _⟩
set_option maxHeartbeats 2000000 in
theorem dnextH_1 (K : Dp w B s) (h : s.held = true) (s0 : 0 ≤ s.say1) (s1 : s.say1 ≤ 65535) :
    Calls Tryz.prog 42 #[dpP B, .int .i64 1] w (fun e w' => e = .returned (.int .u8 (s.say1 / 32768)) ∧ w = w') := by
  have c19 : w.cell? ⟨B, 19, none⟩ = some (.bool s.held) := K.cell 19
  have c13 : w.cell? ⟨B, 14, none⟩ = some (.int .u16 s.say1) := K.cell 14
  rw [h] at c19
  obtain ⟨x, hx⟩ : ∃ x, s.say1 = x := ⟨_, rfl⟩
  rw [hx] at c13 s0 s1 ⊢
  have e1 : x.tdiv 32768 = x / 32768 := Int.tdiv_eq_ediv_of_nonneg s0
  have w1 : IntKind.u16.wrap (x / 32768) = x / 32768 := by rw [IntKind.wrap_u16]; omega
  have w2 : IntKind.u8.wrap (x / 32768) = x / 32768 := by rw [IntKind.wrap_u8]; omega
  have w3 : x / 32768 % 256 = x / 32768 := by omega
  clear K h hx
  go_enter Tryz.func42, Tryz.ntmps42
  go_wp2_with fail
  go_ret
  exact ⟨by first | rfl | simp [e1, w1, w2, w3], by first | rfl | trivial⟩
set_option maxHeartbeats 2000000 in
theorem dnext_1 (K : Dp w B s) (h : s.held = false) (s0 : 0 ≤ s.shift1) (s1 : s.shift1 ≤ 65535) :
    Calls Tryz.prog 42 #[dpP B, .int .i64 1] w (DW w B { s with shift1 := s.shift1 * 2 % 65536 + 1 } (.int .u8 (s.shift1 / 32768))) := by
  have c19 : w.cell? ⟨B, 19, none⟩ = some (.bool s.held) := K.cell 19
  have c17 : w.cell? ⟨B, 18, none⟩ = some (.int .u16 s.shift1) := K.cell 18
  have f17 := K.frozen 18
  rw [h] at c19
  obtain ⟨x, hx⟩ : ∃ x, s.shift1 = x := ⟨_, rfl⟩
  rw [hx] at c17 s0 s1 ⊢
  have A2 : Hid (Dp (w.setCell ⟨B, 18, none⟩ (.int .u16 (x * 2 % 65536 + 1))) B { s with shift1 := x * 2 % 65536 + 1 }) := Lib.hid (K.set_ 18 _)
  have e1 : x.tdiv 32768 = x / 32768 := Int.tdiv_eq_ediv_of_nonneg s0
  have w1 : IntKind.u16.wrap (x / 32768) = x / 32768 := by rw [IntKind.wrap_u16]; omega
  have w2 : IntKind.u8.wrap (x / 32768) = x / 32768 := by rw [IntKind.wrap_u8]; omega
  have w3 : x / 32768 % 256 = x / 32768 := by omega
  have w4 : IntKind.u16.wrap (IntKind.u16.wrap (x * 2) + 1) = x * 2 % 65536 + 1 := by rw [IntKind.wrap_u16, IntKind.wrap_u16]; omega
  have w5 : IntKind.u16.wrap (x * 2 % 65536 + 1) = x * 2 % 65536 + 1 := by rw [IntKind.wrap_u16]; omega
  clear K h hx
  go_enter Tryz.func42, Tryz.ntmps42
  go_wp2_with fail
  go_region_with (fail)
  all_goals
    go_wp2_with fail
    go_ret
    exact ⟨by first | rfl | simp [e1, w1, w2, w3], by first | exact A2.out | (rw [w4]; exact A2.out), by first | exact ((Upd.refl _ _).set _ _).drew | exact (Upd.refl _ _).drew.set _ _⟩
set_option maxHeartbeats 4000000 in
theorem dstate_any (A : Dp w g s) (t0 : 0 ≤ s.now) (t1 : s.now ≤ 281474976710656) (o : Int) (o0 : 0 ≤ o) (o1 : o ≤ 255) : Calls Tryz.prog 44 #[dpP g, .int .u8 o] w (Says w (.int .u8 (o % 64 / 2 * 2 + stV s))) := by
  rw [stV_is]
  have A0 := Lib.hid A
  have c0 : w.cell? ⟨g, 0, none⟩ = some (.int .i64 s.now) := A.cell 0
  have c1 : w.cell? ⟨g, 1, none⟩ = some (.int .i64 s.busy) := A.cell 1
  have c21 : w.cell? ⟨g, 21, none⟩ = some (.bool s.over) := A.cell 21
  have lg := A.lt
  obtain ⟨t, ht⟩ : ∃ t, s.now = t := ⟨_, rfl⟩
  obtain ⟨bz, hbz⟩ : ∃ t, s.busy = t := ⟨_, rfl⟩
  obtain ⟨ov, hov⟩ : ∃ t, s.over = t := ⟨_, rfl⟩
  rw [ht] at c0 t0 t1 ⊢
  rw [hbz] at c1 ⊢
  rw [hov] at c21 ⊢
  have OF := Lib.hid (fun w' => (Bm.rOf_yes t w' t0 t1).mono (R' := Says w' (.agg #[.int .i64 (t / 357368), .int .i64 (t % 357368 / 1364), .int .i64 (t % 1364), .int .i64 (t % 1364 / 4)])) (by rintro e w'' ⟨rfl, rfl⟩; exact ⟨rfl, belowA (Below.refl _ _) _⟩))
  have LA := Lib.hid (fun w' => (Bm.rLast_any ov w').mono (R' := Says w' (.int .i64 (Bm.lastN ov))) (by rintro e w'' ⟨rfl, rfl⟩; exact ⟨rfl, Below.refl _ _⟩))
  have BL := Lib.hid (fun w' => (Bm.rBlank_yes t ov w' t0 t1).mono (R' := Says w' (.tuple #[.bool (Bm.blankH t), .bool (Bm.blankV t ov)])) (by rintro e w'' ⟨rfl, h⟩; exact ⟨rfl, h⟩))
  obtain ⟨y, hy⟩ : ∃ b, Bm.blankH t = b := ⟨_, rfl⟩
  obtain ⟨yv, hyv⟩ : ∃ b, Bm.blankV t ov = b := ⟨_, rfl⟩
  rw [hy, hyv] at BL
  rw [hy]
  obtain ⟨ls, hls⟩ : ∃ b, Bm.lastN ov = b := ⟨_, rfl⟩
  rw [hls] at LA ⊢
  obtain ⟨L, hL⟩ : ∃ b, t % 357368 / 1364 = b := ⟨_, rfl⟩
  obtain ⟨f, hf⟩ : ∃ b, t / 357368 = b := ⟨_, rfl⟩
  obtain ⟨h, hh⟩ : ∃ b, t % 1364 = b := ⟨_, rfl⟩
  obtain ⟨d, hd⟩ : ∃ b, h / 4 = b := ⟨_, rfl⟩
  rw [hL, hf, hh, hd] at OF
  rw [hL]
  obtain ⟨x, hx⟩ : ∃ b, decide (ls < L) = b := ⟨_, rfl⟩
  obtain ⟨z, hz⟩ : ∃ b, decide (t < bz) = b := ⟨_, rfl⟩
  rw [hx, hz]
  clear A ht hbz hov hy hyv hls hL hf hh hd t0 t1
  have GOAL : Hid (∀ w', Below w.heap.size w w' → w'.cell? ⟨g, 0, none⟩ = some (.int .i64 t) ∧ w'.cell? ⟨g, 1, none⟩ = some (.int .i64 bz) ∧ w'.cell? ⟨g, 21, none⟩ = some (.bool ov) ∧ g < w'.heap.size) := Lib.hid (fun w' hb => ⟨keepC hb c0, keepC hb c1, keepC hb c21, Nat.lt_of_lt_of_le lg hb.size⟩)
  clear A0
  have hfd : ∀ w' : World, (Instr.field 79 (.agg #[.int .i64 f, .int .i64 L, .int .i64 h, .int .i64 d]) 1).run Tryz.prog w' = .ok (.int .i64 L) w' := fun _ => by kernel_rfl
  have m1 : 0 ≤ o % 64 / 2 * 2 := by omega
  have m2 : o % 64 / 2 * 2 ≤ 62 := by omega
  have M : Hid (∀ v : Int, v = o % 64 / 2 * 2 → v = o % 64 / 2 * 2) := Lib.hid (fun _ h => h)
  cases x <;> cases y <;> cases z
  all_goals
    go_enter Tryz.func44, Tryz.ntmps44
    go_upto_region 2 with (fail)
    refine wp_region_more (by kernel_rfl) (by kernel_rfl) ?_
    repeat (go_big_quiet_step ((go_at_call 59; exact quiet_more (BL.out _))))
    refine wpQuiet_nil ?_
    rintro _ ⟨n1, rfl⟩
    have Q1 := Lib.hid (below_more (w := w) n1)
    generalize moreOf w n1 = w1 at Q1 ⊢
    obtain ⟨c0, c1, c21, lg⟩ := GOAL.out w1 Q1.out
    go_upto_region 3 with (fail)
    refine wp_region_more (by kernel_rfl) (by kernel_rfl) ?_
    repeat (go_big_quiet_step ((first | (go_at_call 60; exact quiet_more (OF.out _)) | (go_at_call 61; exact quiet_more (LA.out _)))))
    refine wpQuiet_nil ?_
    rintro _ ⟨n2, rfl⟩
    have Q2 := Lib.hid (Q1.out.trans ((below_more (w := w1) n2).mono Q1.out.size))
    generalize moreOf w1 n2 = w2 at Q2 ⊢
    obtain ⟨c0, c1, c21, lg⟩ := GOAL.out w2 Q2.out
    go_upto_region 7 with (fail)
    refine wp_region_more (by kernel_rfl) (by kernel_rfl) ?_
    repeat (go_big_quiet_step (fail))
    refine wpQuiet_nil ?_
    rintro _ ⟨n3, rfl⟩
    have Q3 := Lib.hid (Q2.out.trans ((below_more (w := w2) n3).mono Q2.out.size))
    generalize moreOf w2 n3 = w3 at Q3 ⊢
    go_wp2_with fail
    go_ret
    exact ⟨by first | rfl | (simp only [Ending.returned.injEq, Value.int.injEq, true_and]; simp; omega) | trace_state, Q3.out⟩
end
end Go.Proofs.YtniagcbajjmopaaGreat

namespace Go.Proofs.YtniagcbajjmopaaGreat
open Go.RowKit
set_option linter.unusedVariables false
set_option linter.unusedSimpArgs false
set_option maxRecDepth 100000
section
variable {w : World} {B : Nat} {s : Pt}
set_option maxHeartbeats 2000000 in
theorem dr_padH_0 (K : Dp w B s) (h : s.held = true) (s0 : 0 ≤ s.say0) (s1 : s.say0 ≤ 65535) (o : Int) (o0 : 0 ≤ o) (o1 : o ≤ 255) :
    Calls Tryz.prog 7 #[dpP B, .int .u16 16406, .int .u8 o] w (DW w B s (.tuple #[.int .u8 (o / 4 * 4 + s.say0 / 32768), .bool true])) := by
  have NX := Lib.hid (dnextH_0 K h s0 s1)
  have b0 : 0 ≤ s.say0 / 32768 := by omega
  have b1 : s.say0 / 32768 ≤ 1 := by omega
  obtain ⟨b, hb⟩ : ∃ b, s.say0 / 32768 = b := ⟨_, rfl⟩
  rw [hb] at NX b0 b1 ⊢
  have e1 : o.tdiv 4 = o / 4 := Int.tdiv_eq_ediv_of_nonneg o0
  have w1 : IntKind.u8.wrap (o / 4) = o / 4 := by rw [IntKind.wrap_u8]; omega
  have w2 : IntKind.u8.wrap (o / 4 * 4) = o / 4 * 4 := by rw [IntKind.wrap_u8]; omega
  have w3 : IntKind.u8.wrap (o / 4 * 4 + b) = o / 4 * 4 + b := by rw [IntKind.wrap_u8]; omega
  have KK := Lib.hid K
  clear K h hb s0 s1
  go_enter Tryz.func7, Tryz.ntmps7
  go_wp2_with fail
  refine NX.out.mono ?_
  rintro e w1 ⟨rfl, rfl⟩
  go_wp2_with fail
  go_ret2
  exact ⟨by first | rfl | (simp [e1, w1, w2, w3]; done), KK.out, Upd.refl _ _⟩
set_option maxHeartbeats 2000000 in
theorem dr_pad_0 (K : Dp w B s) (h : s.held = false) (s0 : 0 ≤ s.shift0) (s1 : s.shift0 ≤ 65535) (o : Int) (o0 : 0 ≤ o) (o1 : o ≤ 255) :
    Calls Tryz.prog 7 #[dpP B, .int .u16 16406, .int .u8 o] w (DW w B { s with shift0 := s.shift0 * 2 % 65536 + 1 } (.tuple #[.int .u8 (o / 4 * 4 + s.shift0 / 32768), .bool true])) := by
  have NX := Lib.hid (dnext_0 K h s0 s1)
  have b0 : 0 ≤ s.shift0 / 32768 := by omega
  have b1 : s.shift0 / 32768 ≤ 1 := by omega
  obtain ⟨b, hb⟩ : ∃ b, s.shift0 / 32768 = b := ⟨_, rfl⟩
  rw [hb] at NX b0 b1 ⊢
  have e1 : o.tdiv 4 = o / 4 := Int.tdiv_eq_ediv_of_nonneg o0
  have w1 : IntKind.u8.wrap (o / 4) = o / 4 := by rw [IntKind.wrap_u8]; omega
  have w2 : IntKind.u8.wrap (o / 4 * 4) = o / 4 * 4 := by rw [IntKind.wrap_u8]; omega
  have w3 : IntKind.u8.wrap (o / 4 * 4 + b) = o / 4 * 4 + b := by rw [IntKind.wrap_u8]; omega
  obtain ⟨s2, hs2⟩ : ∃ s2, ({ s with shift0 := s.shift0 * 2 % 65536 + 1 } : Pt) = s2 := ⟨_, rfl⟩
  rw [hs2] at NX ⊢
  clear K h hb s0 s1 hs2
  go_enter Tryz.func7, Tryz.ntmps7
  go_wp2_with fail
  refine NX.out.mono ?_
  rintro e w1 ⟨rfl, k1, u1⟩
  have K1 := Lib.hid k1
  have U1 := Lib.hid u1
  clear k1 u1
  go_wp2_with fail
  go_ret2
  exact ⟨by first | rfl | (simp [e1, w1, w2, w3]; done), K1.out, U1.out⟩
set_option maxHeartbeats 2000000 in
theorem dr_padH_1 (K : Dp w B s) (h : s.held = true) (s0 : 0 ≤ s.say1) (s1 : s.say1 ≤ 65535) (o : Int) (o0 : 0 ≤ o) (o1 : o ≤ 255) :
    Calls Tryz.prog 7 #[dpP B, .int .u16 16407, .int .u8 o] w (DW w B s (.tuple #[.int .u8 (o / 32 * 32 + 28 + s.say1 / 32768), .bool true])) := by
  have NX := Lib.hid (dnextH_1 K h s0 s1)
  have b0 : 0 ≤ s.say1 / 32768 := by omega
  have b1 : s.say1 / 32768 ≤ 1 := by omega
  obtain ⟨b, hb⟩ : ∃ b, s.say1 / 32768 = b := ⟨_, rfl⟩
  rw [hb] at NX b0 b1 ⊢
  have e1 : o.tdiv 32 = o / 32 := Int.tdiv_eq_ediv_of_nonneg o0
  have w1 : IntKind.u8.wrap (o / 32) = o / 32 := by rw [IntKind.wrap_u8]; omega
  have w2 : IntKind.u8.wrap (o / 32 * 32) = o / 32 * 32 := by rw [IntKind.wrap_u8]; omega
  have w4 : IntKind.u8.wrap (o / 32 * 32 + 28) = o / 32 * 32 + 28 := by rw [IntKind.wrap_u8]; omega
  have w3 : IntKind.u8.wrap (o / 32 * 32 + 28 + b) = o / 32 * 32 + 28 + b := by rw [IntKind.wrap_u8]; omega
  have KK := Lib.hid K
  clear K h hb s0 s1
  go_enter Tryz.func7, Tryz.ntmps7
  go_wp2_with fail
  refine NX.out.mono ?_
  rintro e w1 ⟨rfl, rfl⟩
  go_wp2_with fail
  go_ret2
  exact ⟨by first | rfl | (simp [e1, w1, w2, w3]; done), KK.out, Upd.refl _ _⟩
set_option maxHeartbeats 2000000 in
theorem dr_pad_1 (K : Dp w B s) (h : s.held = false) (s0 : 0 ≤ s.shift1) (s1 : s.shift1 ≤ 65535) (o : Int) (o0 : 0 ≤ o) (o1 : o ≤ 255) :
    Calls Tryz.prog 7 #[dpP B, .int .u16 16407, .int .u8 o] w (DW w B { s with shift1 := s.shift1 * 2 % 65536 + 1 } (.tuple #[.int .u8 (o / 32 * 32 + 28 + s.shift1 / 32768), .bool true])) := by
  have NX := Lib.hid (dnext_1 K h s0 s1)
  have b0 : 0 ≤ s.shift1 / 32768 := by omega
  have b1 : s.shift1 / 32768 ≤ 1 := by omega
  obtain ⟨b, hb⟩ : ∃ b, s.shift1 / 32768 = b := ⟨_, rfl⟩
  rw [hb] at NX b0 b1 ⊢
  have e1 : o.tdiv 32 = o / 32 := Int.tdiv_eq_ediv_of_nonneg o0
  have w1 : IntKind.u8.wrap (o / 32) = o / 32 := by rw [IntKind.wrap_u8]; omega
  have w2 : IntKind.u8.wrap (o / 32 * 32) = o / 32 * 32 := by rw [IntKind.wrap_u8]; omega
  have w4 : IntKind.u8.wrap (o / 32 * 32 + 28) = o / 32 * 32 + 28 := by rw [IntKind.wrap_u8]; omega
  have w3 : IntKind.u8.wrap (o / 32 * 32 + 28 + b) = o / 32 * 32 + 28 + b := by rw [IntKind.wrap_u8]; omega
  obtain ⟨s2, hs2⟩ : ∃ s2, ({ s with shift1 := s.shift1 * 2 % 65536 + 1 } : Pt) = s2 := ⟨_, rfl⟩
  rw [hs2] at NX ⊢
  clear K h hb s0 s1 hs2
  go_enter Tryz.func7, Tryz.ntmps7
  go_wp2_with fail
  refine NX.out.mono ?_
  rintro e w1 ⟨rfl, k1, u1⟩
  have K1 := Lib.hid k1
  have U1 := Lib.hid u1
  clear k1 u1
  go_wp2_with fail
  go_ret2
  exact ⟨by first | rfl | (simp [e1, w1, w2, w3]; done), K1.out, U1.out⟩
set_option maxHeartbeats 2000000 in
theorem dr_nmi (K : Dp w B s) (o : Int) (o0 : 0 ≤ o) (o1 : o ≤ 255) :
    Calls Tryz.prog 7 #[dpP B, .int .u16 16912, .int .u8 o] w (DW w B { s with flagged := false } (.tuple #[.int .u8 (o % 128 / 16 * 16 + 2 + flagV s.flagged), .bool true])) := by
  have FL := Lib.hid (fun w' => dflag_any s.flagged w')
  have c10 : w.cell? ⟨B, 10, none⟩ = some (.bool s.flagged) := K.cell 10
  have f10 := K.frozen 10
  have A2 : Hid (Dp (w.setCell ⟨B, 10, none⟩ (.bool false)) B { s with flagged := false }) := Lib.hid (K.set_ 10 _)
  obtain ⟨q, hq⟩ : ∃ q, s.flagged = q := ⟨_, rfl⟩
  rw [hq] at FL c10 ⊢
  have b0 : 0 ≤ flagV q := by unfold flagV; split <;> omega
  have b1 : flagV q ≤ 128 := by unfold flagV; split <;> omega
  obtain ⟨b, hb⟩ : ∃ b, flagV q = b := ⟨_, rfl⟩
  rw [hb] at FL b0 b1 ⊢
  have e1 : o.tmod 128 = o % 128 := Int.tmod_eq_emod_of_nonneg o0
  have e2 : (o % 128).tdiv 16 = o % 128 / 16 := Int.tdiv_eq_ediv_of_nonneg (by omega)
  have w1 : IntKind.u8.wrap (o % 128 / 16) = o % 128 / 16 := by rw [IntKind.wrap_u8]; omega
  have w2 : IntKind.u8.wrap (o % 128 / 16 * 16) = o % 128 / 16 * 16 := by rw [IntKind.wrap_u8]; omega
  have w3 : IntKind.u8.wrap (o % 128 / 16 * 16 + 2) = o % 128 / 16 * 16 + 2 := by rw [IntKind.wrap_u8]; omega
  have w4 : IntKind.u8.wrap (o % 128 / 16 * 16 + 2 + b) = o % 128 / 16 * 16 + 2 + b := by rw [IntKind.wrap_u8]; omega
  obtain ⟨s2, hs2⟩ : ∃ s2, ({ s with flagged := false } : Pt) = s2 := ⟨_, rfl⟩
  rw [hs2] at A2 ⊢
  clear K hb hq hs2
  go_enter Tryz.func7, Tryz.ntmps7
  go_wp2_with (go_at_call 43; refine (FL.out _).mono ?_; rintro e w' ⟨rfl, rfl⟩)
  go_ret2
  exact ⟨by first | rfl | (simp [e1, w1, w4]; done), A2.out, (Upd.refl _ _).set _ _⟩
set_option maxHeartbeats 2000000 in
theorem dr_irq (K : Dp w B s) (o : Int) (o0 : 0 ≤ o) (o1 : o ≤ 255) :
    Calls Tryz.prog 7 #[dpP B, .int .u16 16913, .int .u8 o] w (DW w B { s with irq := false } (.tuple #[.int .u8 (o % 128 + flagV s.irq), .bool true])) := by
  have FL := Lib.hid (fun w' => dflag_any s.irq w')
  have c10 : w.cell? ⟨B, 12, none⟩ = some (.bool s.irq) := K.cell 12
  have f10 := K.frozen 12
  have A2 : Hid (Dp (w.setCell ⟨B, 12, none⟩ (.bool false)) B { s with irq := false }) := Lib.hid (K.set_ 12 _)
  obtain ⟨q, hq⟩ : ∃ q, s.irq = q := ⟨_, rfl⟩
  rw [hq] at FL c10 ⊢
  have b0 : 0 ≤ flagV q := by unfold flagV; split <;> omega
  have b1 : flagV q ≤ 128 := by unfold flagV; split <;> omega
  obtain ⟨b, hb⟩ : ∃ b, flagV q = b := ⟨_, rfl⟩
  rw [hb] at FL b0 b1 ⊢
  have e1 : o.tmod 128 = o % 128 := Int.tmod_eq_emod_of_nonneg o0
  have w1 : IntKind.u8.wrap (o % 128) = o % 128 := by rw [IntKind.wrap_u8]; omega
  have w4 : IntKind.u8.wrap (o % 128 + b) = o % 128 + b := by rw [IntKind.wrap_u8]; omega
  obtain ⟨s2, hs2⟩ : ∃ s2, ({ s with irq := false } : Pt) = s2 := ⟨_, rfl⟩
  rw [hs2] at A2 ⊢
  clear K hb hq hs2
  go_enter Tryz.func7, Tryz.ntmps7
  go_wp2_with (go_at_call 43; refine (FL.out _).mono ?_; rintro e w' ⟨rfl, rfl⟩)
  go_ret2
  exact ⟨by first | rfl | (simp [e1, w1, w4]; done), A2.out, (Upd.refl _ _).set _ _⟩
set_option maxHeartbeats 2000000 in
theorem dr_state (K : Dp w B s) (t0 : 0 ≤ s.now) (t1 : s.now ≤ 281474976710656) (o : Int) (o0 : 0 ≤ o) (o1 : o ≤ 255) :
    Calls Tryz.prog 7 #[dpP B, .int .u16 16914, .int .u8 o] w (Says w (.tuple #[.int .u8 (o % 64 / 2 * 2 + stV s), .bool true])) := by
  have ST := Lib.hid (dstate_any K t0 t1 o o0 o1)
  obtain ⟨b, hb⟩ : ∃ b, o % 64 / 2 * 2 + stV s = b := ⟨_, rfl⟩
  rw [hb] at ST ⊢
  clear K hb t0 t1
  go_enter Tryz.func7, Tryz.ntmps7
  go_wp2_with fail
  refine ST.out.mono ?_
  rintro e w1 ⟨rfl, hb1⟩
  go_wp2_with fail
  go_ret2
  exact ⟨rfl, hb1⟩
set_option maxHeartbeats 2000000 in
theorem dr_output (K : Dp w B s) (o : Int) :
    Calls Tryz.prog 7 #[dpP B, .int .u16 16915, .int .u8 o] w (Says w (.tuple #[.int .u8 s.output, .bool true])) := by
  have c4 : w.cell? ⟨B, 4, none⟩ = some (.int .u8 s.output) := K.cell 4
  clear K
  go_enter Tryz.func7, Tryz.ntmps7
  go_wp2_with fail
  go_ret2
  exact ⟨rfl, Below.refl _ _⟩
set_option maxHeartbeats 4000000 in
theorem dr_w16916 (K : Dp w B s) (F : Fit2 s) (o : Int) :
    Calls Tryz.prog 7 #[dpP B, .int .u16 16916, .int .u8 o] w (Says w (.tuple #[.int .u8 (wordV 16916 s), .bool true])) := by
  have c6 : w.cell? ⟨B, 6, none⟩ = some (.int .u16 s.quotient) := K.cell 6
  have c7 : w.cell? ⟨B, 7, none⟩ = some (.int .u16 s.product) := K.cell 7
  have c15 : w.cell? ⟨B, 15, none⟩ = some (.int .u16 s.auto0) := K.cell 15
  have c16 : w.cell? ⟨B, 16, none⟩ = some (.int .u16 s.auto1) := K.cell 16
  have lB := K.lt
  have r0 : 0 ≤ s.quotient := F.q0
  have r1 : s.quotient ≤ 65535 := F.q1
  obtain ⟨q, hq⟩ : ∃ q, s.quotient = q := ⟨_, rfl⟩
  obtain ⟨p7, hp⟩ : ∃ q, s.product = q := ⟨_, rfl⟩
  obtain ⟨x0, hx0⟩ : ∃ q, s.auto0 = q := ⟨_, rfl⟩
  obtain ⟨x1, hx1⟩ : ∃ q, s.auto1 = q := ⟨_, rfl⟩
  have WV : wordV 16916 s = q % 256 := by
    have : wordV 16916 s = s.quotient % 256 := rfl
    rw [this, hq]
  rw [WV]
  rw [hq] at r0 r1
  rw [hq] at c6
  rw [hp] at c7
  rw [hx0] at c15
  rw [hx1] at c16
  have e1 : q.tdiv 256 = q / 256 := Int.tdiv_eq_ediv_of_nonneg r0
  have w1 : IntKind.u16.wrap (q / 256) = q / 256 := by rw [IntKind.wrap_u16]; omega
  have e2 : (q / 256).tmod 256 = q / 256 := by rw [Int.tmod_eq_emod_of_nonneg (by omega)]; omega
  have e3 : q.tmod 256 = q % 256 := Int.tmod_eq_emod_of_nonneg r0
  have w2 : IntKind.u8.wrap (q / 256) = q / 256 := by rw [IntKind.wrap_u8]; omega
  have w3 : IntKind.u8.wrap (q % 256) = q % 256 := by rw [IntKind.wrap_u8]; omega
  have w5 : q / 256 % 256 = q / 256 := by omega
  clear WV F hq hp hx0 hx1 K
  go_enter Tryz.func7, Tryz.ntmps7
  go_wp2_with fail
  go_ret2
  exact ⟨by first | rfl | (simp [e1, e2, e3, w1, w2, w3, w5]; done) | trace_state, by first | exact belowA (Below.refl _ _) _ | trace_state⟩
set_option maxHeartbeats 4000000 in
theorem dr_w16917 (K : Dp w B s) (F : Fit2 s) (o : Int) :
    Calls Tryz.prog 7 #[dpP B, .int .u16 16917, .int .u8 o] w (Says w (.tuple #[.int .u8 (wordV 16917 s), .bool true])) := by
  have c6 : w.cell? ⟨B, 6, none⟩ = some (.int .u16 s.quotient) := K.cell 6
  have c7 : w.cell? ⟨B, 7, none⟩ = some (.int .u16 s.product) := K.cell 7
  have c15 : w.cell? ⟨B, 15, none⟩ = some (.int .u16 s.auto0) := K.cell 15
  have c16 : w.cell? ⟨B, 16, none⟩ = some (.int .u16 s.auto1) := K.cell 16
  have lB := K.lt
  have r0 : 0 ≤ s.quotient := F.q0
  have r1 : s.quotient ≤ 65535 := F.q1
  obtain ⟨q, hq⟩ : ∃ q, s.quotient = q := ⟨_, rfl⟩
  obtain ⟨p7, hp⟩ : ∃ q, s.product = q := ⟨_, rfl⟩
  obtain ⟨x0, hx0⟩ : ∃ q, s.auto0 = q := ⟨_, rfl⟩
  obtain ⟨x1, hx1⟩ : ∃ q, s.auto1 = q := ⟨_, rfl⟩
  have WV : wordV 16917 s = q / 256 := by
    have : wordV 16917 s = s.quotient / 256 := rfl
    rw [this, hq]
  rw [WV]
  rw [hq] at r0 r1
  rw [hq] at c6
  rw [hp] at c7
  rw [hx0] at c15
  rw [hx1] at c16
  have e1 : q.tdiv 256 = q / 256 := Int.tdiv_eq_ediv_of_nonneg r0
  have w1 : IntKind.u16.wrap (q / 256) = q / 256 := by rw [IntKind.wrap_u16]; omega
  have e2 : (q / 256).tmod 256 = q / 256 := by rw [Int.tmod_eq_emod_of_nonneg (by omega)]; omega
  have e3 : q.tmod 256 = q % 256 := Int.tmod_eq_emod_of_nonneg r0
  have w2 : IntKind.u8.wrap (q / 256) = q / 256 := by rw [IntKind.wrap_u8]; omega
  have w3 : IntKind.u8.wrap (q % 256) = q % 256 := by rw [IntKind.wrap_u8]; omega
  have w5 : q / 256 % 256 = q / 256 := by omega
  clear WV F hq hp hx0 hx1 K
  go_enter Tryz.func7, Tryz.ntmps7
  go_wp2_with fail
  go_ret2
  exact ⟨by first | rfl | (simp [e1, e2, e3, w1, w2, w3, w5]; done) | trace_state, by first | exact belowA (Below.refl _ _) _ | trace_state⟩
set_option maxHeartbeats 4000000 in
theorem dr_w16918 (K : Dp w B s) (F : Fit2 s) (o : Int) :
    Calls Tryz.prog 7 #[dpP B, .int .u16 16918, .int .u8 o] w (Says w (.tuple #[.int .u8 (wordV 16918 s), .bool true])) := by
  have c6 : w.cell? ⟨B, 6, none⟩ = some (.int .u16 s.quotient) := K.cell 6
  have c7 : w.cell? ⟨B, 7, none⟩ = some (.int .u16 s.product) := K.cell 7
  have c15 : w.cell? ⟨B, 15, none⟩ = some (.int .u16 s.auto0) := K.cell 15
  have c16 : w.cell? ⟨B, 16, none⟩ = some (.int .u16 s.auto1) := K.cell 16
  have lB := K.lt
  have r0 : 0 ≤ s.product := F.p0
  have r1 : s.product ≤ 65535 := F.p1
  obtain ⟨q, hq⟩ : ∃ q, s.quotient = q := ⟨_, rfl⟩
  obtain ⟨p7, hp⟩ : ∃ q, s.product = q := ⟨_, rfl⟩
  obtain ⟨x0, hx0⟩ : ∃ q, s.auto0 = q := ⟨_, rfl⟩
  obtain ⟨x1, hx1⟩ : ∃ q, s.auto1 = q := ⟨_, rfl⟩
  have WV : wordV 16918 s = p7 % 256 := by
    have : wordV 16918 s = s.product % 256 := rfl
    rw [this, hp]
  rw [WV]
  rw [hp] at r0 r1
  rw [hq] at c6
  rw [hp] at c7
  rw [hx0] at c15
  rw [hx1] at c16
  have e1 : p7.tdiv 256 = p7 / 256 := Int.tdiv_eq_ediv_of_nonneg r0
  have w1 : IntKind.u16.wrap (p7 / 256) = p7 / 256 := by rw [IntKind.wrap_u16]; omega
  have e2 : (p7 / 256).tmod 256 = p7 / 256 := by rw [Int.tmod_eq_emod_of_nonneg (by omega)]; omega
  have e3 : p7.tmod 256 = p7 % 256 := Int.tmod_eq_emod_of_nonneg r0
  have w2 : IntKind.u8.wrap (p7 / 256) = p7 / 256 := by rw [IntKind.wrap_u8]; omega
  have w3 : IntKind.u8.wrap (p7 % 256) = p7 % 256 := by rw [IntKind.wrap_u8]; omega
  have w5 : p7 / 256 % 256 = p7 / 256 := by omega
  clear WV F hq hp hx0 hx1 K
  go_enter Tryz.func7, Tryz.ntmps7
  go_wp2_with fail
  go_ret2
  exact ⟨by first | rfl | (simp [e1, e2, e3, w1, w2, w3, w5]; done) | trace_state, by first | exact belowA (Below.refl _ _) _ | trace_state⟩
set_option maxHeartbeats 4000000 in
theorem dr_w16919 (K : Dp w B s) (F : Fit2 s) (o : Int) :
    Calls Tryz.prog 7 #[dpP B, .int .u16 16919, .int .u8 o] w (Says w (.tuple #[.int .u8 (wordV 16919 s), .bool true])) := by
  have c6 : w.cell? ⟨B, 6, none⟩ = some (.int .u16 s.quotient) := K.cell 6
  have c7 : w.cell? ⟨B, 7, none⟩ = some (.int .u16 s.product) := K.cell 7
  have c15 : w.cell? ⟨B, 15, none⟩ = some (.int .u16 s.auto0) := K.cell 15
  have c16 : w.cell? ⟨B, 16, none⟩ = some (.int .u16 s.auto1) := K.cell 16
  have lB := K.lt
  have r0 : 0 ≤ s.product := F.p0
  have r1 : s.product ≤ 65535 := F.p1
  obtain ⟨q, hq⟩ : ∃ q, s.quotient = q := ⟨_, rfl⟩
  obtain ⟨p7, hp⟩ : ∃ q, s.product = q := ⟨_, rfl⟩
  obtain ⟨x0, hx0⟩ : ∃ q, s.auto0 = q := ⟨_, rfl⟩
  obtain ⟨x1, hx1⟩ : ∃ q, s.auto1 = q := ⟨_, rfl⟩
  have WV : wordV 16919 s = p7 / 256 := by
    have : wordV 16919 s = s.product / 256 := rfl
    rw [this, hp]
  rw [WV]
  rw [hp] at r0 r1
  rw [hq] at c6
  rw [hp] at c7
  rw [hx0] at c15
  rw [hx1] at c16
  have e1 : p7.tdiv 256 = p7 / 256 := Int.tdiv_eq_ediv_of_nonneg r0
  have w1 : IntKind.u16.wrap (p7 / 256) = p7 / 256 := by rw [IntKind.wrap_u16]; omega
  have e2 : (p7 / 256).tmod 256 = p7 / 256 := by rw [Int.tmod_eq_emod_of_nonneg (by omega)]; omega
  have e3 : p7.tmod 256 = p7 % 256 := Int.tmod_eq_emod_of_nonneg r0
  have w2 : IntKind.u8.wrap (p7 / 256) = p7 / 256 := by rw [IntKind.wrap_u8]; omega
  have w3 : IntKind.u8.wrap (p7 % 256) = p7 % 256 := by rw [IntKind.wrap_u8]; omega
  have w5 : p7 / 256 % 256 = p7 / 256 := by omega
  clear WV F hq hp hx0 hx1 K
  go_enter Tryz.func7, Tryz.ntmps7
  go_wp2_with fail
  go_ret2
  exact ⟨by first | rfl | (simp [e1, e2, e3, w1, w2, w3, w5]; done) | trace_state, by first | exact belowA (Below.refl _ _) _ | trace_state⟩
set_option maxHeartbeats 4000000 in
theorem dr_w16920 (K : Dp w B s) (F : Fit2 s) (o : Int) :
    Calls Tryz.prog 7 #[dpP B, .int .u16 16920, .int .u8 o] w (Says w (.tuple #[.int .u8 (wordV 16920 s), .bool true])) := by
  have c6 : w.cell? ⟨B, 6, none⟩ = some (.int .u16 s.quotient) := K.cell 6
  have c7 : w.cell? ⟨B, 7, none⟩ = some (.int .u16 s.product) := K.cell 7
  have c15 : w.cell? ⟨B, 15, none⟩ = some (.int .u16 s.auto0) := K.cell 15
  have c16 : w.cell? ⟨B, 16, none⟩ = some (.int .u16 s.auto1) := K.cell 16
  have lB := K.lt
  have r0 : 0 ≤ s.auto0 := F.c0
  have r1 : s.auto0 ≤ 65535 := F.c1
  obtain ⟨q, hq⟩ : ∃ q, s.quotient = q := ⟨_, rfl⟩
  obtain ⟨p7, hp⟩ : ∃ q, s.product = q := ⟨_, rfl⟩
  obtain ⟨x0, hx0⟩ : ∃ q, s.auto0 = q := ⟨_, rfl⟩
  obtain ⟨x1, hx1⟩ : ∃ q, s.auto1 = q := ⟨_, rfl⟩
  have WV : wordV 16920 s = x0 % 256 := by
    have : wordV 16920 s = s.auto0 % 256 := rfl
    rw [this, hx0]
  rw [WV]
  rw [hx0] at r0 r1
  rw [hq] at c6
  rw [hp] at c7
  rw [hx0] at c15
  rw [hx1] at c16
  have e1 : x0.tdiv 256 = x0 / 256 := Int.tdiv_eq_ediv_of_nonneg r0
  have w1 : IntKind.u16.wrap (x0 / 256) = x0 / 256 := by rw [IntKind.wrap_u16]; omega
  have e2 : (x0 / 256).tmod 256 = x0 / 256 := by rw [Int.tmod_eq_emod_of_nonneg (by omega)]; omega
  have e3 : x0.tmod 256 = x0 % 256 := Int.tmod_eq_emod_of_nonneg r0
  have w2 : IntKind.u8.wrap (x0 / 256) = x0 / 256 := by rw [IntKind.wrap_u8]; omega
  have w3 : IntKind.u8.wrap (x0 % 256) = x0 % 256 := by rw [IntKind.wrap_u8]; omega
  have w5 : x0 / 256 % 256 = x0 / 256 := by omega
  clear WV F hq hp hx0 hx1 K
  go_enter Tryz.func7, Tryz.ntmps7
  go_wp2_with fail
  go_ret2
  exact ⟨by first | rfl | (simp [e1, e2, e3, w1, w2, w3, w5]; done) | trace_state, by first | exact belowA (Below.refl _ _) _ | trace_state⟩
set_option maxHeartbeats 4000000 in
theorem dr_w16921 (K : Dp w B s) (F : Fit2 s) (o : Int) :
    Calls Tryz.prog 7 #[dpP B, .int .u16 16921, .int .u8 o] w (Says w (.tuple #[.int .u8 (wordV 16921 s), .bool true])) := by
  have c6 : w.cell? ⟨B, 6, none⟩ = some (.int .u16 s.quotient) := K.cell 6
  have c7 : w.cell? ⟨B, 7, none⟩ = some (.int .u16 s.product) := K.cell 7
  have c15 : w.cell? ⟨B, 15, none⟩ = some (.int .u16 s.auto0) := K.cell 15
  have c16 : w.cell? ⟨B, 16, none⟩ = some (.int .u16 s.auto1) := K.cell 16
  have lB := K.lt
  have r0 : 0 ≤ s.auto0 := F.c0
  have r1 : s.auto0 ≤ 65535 := F.c1
  obtain ⟨q, hq⟩ : ∃ q, s.quotient = q := ⟨_, rfl⟩
  obtain ⟨p7, hp⟩ : ∃ q, s.product = q := ⟨_, rfl⟩
  obtain ⟨x0, hx0⟩ : ∃ q, s.auto0 = q := ⟨_, rfl⟩
  obtain ⟨x1, hx1⟩ : ∃ q, s.auto1 = q := ⟨_, rfl⟩
  have WV : wordV 16921 s = x0 / 256 := by
    have : wordV 16921 s = s.auto0 / 256 := rfl
    rw [this, hx0]
  rw [WV]
  rw [hx0] at r0 r1
  rw [hq] at c6
  rw [hp] at c7
  rw [hx0] at c15
  rw [hx1] at c16
  have e1 : x0.tdiv 256 = x0 / 256 := Int.tdiv_eq_ediv_of_nonneg r0
  have w1 : IntKind.u16.wrap (x0 / 256) = x0 / 256 := by rw [IntKind.wrap_u16]; omega
  have e2 : (x0 / 256).tmod 256 = x0 / 256 := by rw [Int.tmod_eq_emod_of_nonneg (by omega)]; omega
  have e3 : x0.tmod 256 = x0 % 256 := Int.tmod_eq_emod_of_nonneg r0
  have w2 : IntKind.u8.wrap (x0 / 256) = x0 / 256 := by rw [IntKind.wrap_u8]; omega
  have w3 : IntKind.u8.wrap (x0 % 256) = x0 % 256 := by rw [IntKind.wrap_u8]; omega
  have w5 : x0 / 256 % 256 = x0 / 256 := by omega
  clear WV F hq hp hx0 hx1 K
  go_enter Tryz.func7, Tryz.ntmps7
  go_wp2_with fail
  go_ret2
  exact ⟨by first | rfl | (simp [e1, e2, e3, w1, w2, w3, w5]; done) | trace_state, by first | exact belowA (Below.refl _ _) _ | trace_state⟩
set_option maxHeartbeats 4000000 in
theorem dr_w16922 (K : Dp w B s) (F : Fit2 s) (o : Int) :
    Calls Tryz.prog 7 #[dpP B, .int .u16 16922, .int .u8 o] w (Says w (.tuple #[.int .u8 (wordV 16922 s), .bool true])) := by
  have c6 : w.cell? ⟨B, 6, none⟩ = some (.int .u16 s.quotient) := K.cell 6
  have c7 : w.cell? ⟨B, 7, none⟩ = some (.int .u16 s.product) := K.cell 7
  have c15 : w.cell? ⟨B, 15, none⟩ = some (.int .u16 s.auto0) := K.cell 15
  have c16 : w.cell? ⟨B, 16, none⟩ = some (.int .u16 s.auto1) := K.cell 16
  have lB := K.lt
  have r0 : 0 ≤ s.auto1 := F.e0
  have r1 : s.auto1 ≤ 65535 := F.e1
  obtain ⟨q, hq⟩ : ∃ q, s.quotient = q := ⟨_, rfl⟩
  obtain ⟨p7, hp⟩ : ∃ q, s.product = q := ⟨_, rfl⟩
  obtain ⟨x0, hx0⟩ : ∃ q, s.auto0 = q := ⟨_, rfl⟩
  obtain ⟨x1, hx1⟩ : ∃ q, s.auto1 = q := ⟨_, rfl⟩
  have WV : wordV 16922 s = x1 % 256 := by
    have : wordV 16922 s = s.auto1 % 256 := rfl
    rw [this, hx1]
  rw [WV]
  rw [hx1] at r0 r1
  rw [hq] at c6
  rw [hp] at c7
  rw [hx0] at c15
  rw [hx1] at c16
  have e1 : x1.tdiv 256 = x1 / 256 := Int.tdiv_eq_ediv_of_nonneg r0
  have w1 : IntKind.u16.wrap (x1 / 256) = x1 / 256 := by rw [IntKind.wrap_u16]; omega
  have e2 : (x1 / 256).tmod 256 = x1 / 256 := by rw [Int.tmod_eq_emod_of_nonneg (by omega)]; omega
  have e3 : x1.tmod 256 = x1 % 256 := Int.tmod_eq_emod_of_nonneg r0
  have w2 : IntKind.u8.wrap (x1 / 256) = x1 / 256 := by rw [IntKind.wrap_u8]; omega
  have w3 : IntKind.u8.wrap (x1 % 256) = x1 % 256 := by rw [IntKind.wrap_u8]; omega
  have w5 : x1 / 256 % 256 = x1 / 256 := by omega
  clear WV F hq hp hx0 hx1 K
  go_enter Tryz.func7, Tryz.ntmps7
  go_wp2_with fail
  go_ret2
  exact ⟨by first | rfl | (simp [e1, e2, e3, w1, w2, w3, w5]; done) | trace_state, by first | exact belowA (Below.refl _ _) _ | trace_state⟩
set_option maxHeartbeats 4000000 in
theorem dr_w16923 (K : Dp w B s) (F : Fit2 s) (o : Int) :
    Calls Tryz.prog 7 #[dpP B, .int .u16 16923, .int .u8 o] w (Says w (.tuple #[.int .u8 (wordV 16923 s), .bool true])) := by
  have c6 : w.cell? ⟨B, 6, none⟩ = some (.int .u16 s.quotient) := K.cell 6
  have c7 : w.cell? ⟨B, 7, none⟩ = some (.int .u16 s.product) := K.cell 7
  have c15 : w.cell? ⟨B, 15, none⟩ = some (.int .u16 s.auto0) := K.cell 15
  have c16 : w.cell? ⟨B, 16, none⟩ = some (.int .u16 s.auto1) := K.cell 16
  have lB := K.lt
  have r0 : 0 ≤ s.auto1 := F.e0
  have r1 : s.auto1 ≤ 65535 := F.e1
  obtain ⟨q, hq⟩ : ∃ q, s.quotient = q := ⟨_, rfl⟩
  obtain ⟨p7, hp⟩ : ∃ q, s.product = q := ⟨_, rfl⟩
  obtain ⟨x0, hx0⟩ : ∃ q, s.auto0 = q := ⟨_, rfl⟩
  obtain ⟨x1, hx1⟩ : ∃ q, s.auto1 = q := ⟨_, rfl⟩
  have WV : wordV 16923 s = x1 / 256 := by
    have : wordV 16923 s = s.auto1 / 256 := rfl
    rw [this, hx1]
  rw [WV]
  rw [hx1] at r0 r1
  rw [hq] at c6
  rw [hp] at c7
  rw [hx0] at c15
  rw [hx1] at c16
  have e1 : x1.tdiv 256 = x1 / 256 := Int.tdiv_eq_ediv_of_nonneg r0
  have w1 : IntKind.u16.wrap (x1 / 256) = x1 / 256 := by rw [IntKind.wrap_u16]; omega
  have e2 : (x1 / 256).tmod 256 = x1 / 256 := by rw [Int.tmod_eq_emod_of_nonneg (by omega)]; omega
  have e3 : x1.tmod 256 = x1 % 256 := Int.tmod_eq_emod_of_nonneg r0
  have w2 : IntKind.u8.wrap (x1 / 256) = x1 / 256 := by rw [IntKind.wrap_u8]; omega
  have w3 : IntKind.u8.wrap (x1 % 256) = x1 % 256 := by rw [IntKind.wrap_u8]; omega
  have w5 : x1 / 256 % 256 = x1 / 256 := by omega
  clear WV F hq hp hx0 hx1 K
  go_enter Tryz.func7, Tryz.ntmps7
  go_wp2_with fail
  go_ret2
  exact ⟨by first | rfl | (simp [e1, e2, e3, w1, w2, w3, w5]; done) | trace_state, by first | exact belowA (Below.refl _ _) _ | trace_state⟩
set_option maxHeartbeats 4000000 in
theorem dr_w16924 (K : Dp w B s) (F : Fit2 s) (o : Int) :
    Calls Tryz.prog 7 #[dpP B, .int .u16 16924, .int .u8 o] w (Says w (.tuple #[.int .u8 (wordV 16924 s), .bool true])) := by
  have WV : wordV 16924 s = 0 := rfl
  rw [WV]
  clear WV F K
  go_enter Tryz.func7, Tryz.ntmps7
  go_wp2_with fail
  go_ret2
  exact ⟨rfl, Below.refl _ _⟩
set_option maxHeartbeats 4000000 in
theorem dr_w16925 (K : Dp w B s) (F : Fit2 s) (o : Int) :
    Calls Tryz.prog 7 #[dpP B, .int .u16 16925, .int .u8 o] w (Says w (.tuple #[.int .u8 (wordV 16925 s), .bool true])) := by
  have WV : wordV 16925 s = 0 := rfl
  rw [WV]
  clear WV F K
  go_enter Tryz.func7, Tryz.ntmps7
  go_wp2_with fail
  go_ret2
  exact ⟨rfl, Below.refl _ _⟩
set_option maxHeartbeats 4000000 in
theorem dr_w16926 (K : Dp w B s) (F : Fit2 s) (o : Int) :
    Calls Tryz.prog 7 #[dpP B, .int .u16 16926, .int .u8 o] w (Says w (.tuple #[.int .u8 (wordV 16926 s), .bool true])) := by
  have WV : wordV 16926 s = 0 := rfl
  rw [WV]
  clear WV F K
  go_enter Tryz.func7, Tryz.ntmps7
  go_wp2_with fail
  go_ret2
  exact ⟨rfl, Below.refl _ _⟩
set_option maxHeartbeats 4000000 in
theorem dr_w16927 (K : Dp w B s) (F : Fit2 s) (o : Int) :
    Calls Tryz.prog 7 #[dpP B, .int .u16 16927, .int .u8 o] w (Says w (.tuple #[.int .u8 (wordV 16927 s), .bool true])) := by
  have WV : wordV 16927 s = 0 := rfl
  rw [WV]
  clear WV F K
  go_enter Tryz.func7, Tryz.ntmps7
  go_wp2_with fail
  go_ret2
  exact ⟨rfl, Below.refl _ _⟩
set_option maxHeartbeats 4000000 in
theorem dr_none (K : Dp w B s) (p o : Int) (hp : p ≠ 16406 ∧ p ≠ 16407 ∧ p ≠ 16912 ∧ p ≠ 16913 ∧ p ≠ 16914 ∧ p ≠ 16915 ∧ p ≠ 16916 ∧ p ≠ 16917 ∧ p ≠ 16918 ∧ p ≠ 16919 ∧ p ≠ 16920 ∧ p ≠ 16921 ∧ p ≠ 16922 ∧ p ≠ 16923 ∧ p ≠ 16924 ∧ p ≠ 16925 ∧ p ≠ 16926 ∧ p ≠ 16927) :
    Calls Tryz.prog 7 #[dpP B, .int .u16 p, .int .u8 o] w (Says w (.tuple #[.int .u8 0, .bool false])) := by
  obtain ⟨h0, h1, h2, h3, h4, h5, h6, h7, h8, h9, h10, h11, h12, h13, h14, h15, h16, h17⟩ := hp
  have t0 : (p == 16406) = false := by simpa using h0
  have t1 : (p == 16407) = false := by simpa using h1
  have t2 : (p == 16912) = false := by simpa using h2
  have t3 : (p == 16913) = false := by simpa using h3
  have t4 : (p == 16914) = false := by simpa using h4
  have t5 : (p == 16915) = false := by simpa using h5
  have t6 : (p == 16916) = false := by simpa using h6
  have t7 : (p == 16917) = false := by simpa using h7
  have t8 : (p == 16918) = false := by simpa using h8
  have t9 : (p == 16919) = false := by simpa using h9
  have t10 : (p == 16920) = false := by simpa using h10
  have t11 : (p == 16921) = false := by simpa using h11
  have t12 : (p == 16922) = false := by simpa using h12
  have t13 : (p == 16923) = false := by simpa using h13
  have t14 : (p == 16924) = false := by simpa using h14
  have t15 : (p == 16925) = false := by simpa using h15
  have t16 : (p == 16926) = false := by simpa using h16
  have t17 : (p == 16927) = false := by simpa using h17
  clear K h0 h1 h2 h3 h4 h5 h6 h7 h8 h9 h10 h11 h12 h13 h14 h15 h16 h17
  go_enter Tryz.func7, Tryz.ntmps7
  go_wp2_with fail
  go_ret2
  exact ⟨rfl, Below.refl _ _⟩
end
end Go.Proofs.YtniagcbajjmopaaGreat
