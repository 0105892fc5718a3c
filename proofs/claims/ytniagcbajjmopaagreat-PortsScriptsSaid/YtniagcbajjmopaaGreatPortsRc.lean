/- ports: Read at every state. -/
import Derived.Test.YtniagcbajjmopaaGreatPortsGs
import Derived.Test.YtniagcbajjmopaaGreatPortsP
import Derived.Test.YtniagcbajjmopaaGreatPortsBm
import Derived.Test.YtniagcbajjmopaaGreatPortsO
import Derived.BigRegion
import Derived.Deep.RegionHeld3
namespace Go.Proofs.YtniagcbajjmopaaGreat
open Go.RowKit
set_option linter.unusedVariables false
set_option linter.unusedSimpArgs false
set_option maxRecDepth 100000
def flagV (b : Bool) : Int := if b then 128 else 0
/-- What 4212 says. -/
def stV (s : Pt) : Int := (if Bm.lastN s.over < s.now % 357368 / 1364 then 128 else 0) + (if Bm.blankH s.now then 64 else 0) + (if s.now < s.busy then 1 else 0)
/-- What a word's port says. -/
def wordV (p : Int) (s : Pt) : Int :=
  if p = 16916 then s.quotient % 256 else if p = 16917 then s.quotient / 256 else if p = 16918 then s.product % 256 else if p = 16919 then s.product / 256 else
  if p = 16920 then s.auto0 % 256 else if p = 16921 then s.auto0 / 256 else if p = 16922 then s.auto1 % 256 else if p = 16923 then s.auto1 / 256 else 0
/-- What a read says and does. -/
def readP (p o : Int) (s : Pt) : (Int × Bool) × Pt :=
  if p = 16406 then ((o / 4 * 4 + (if s.held then s.say0 else s.shift0) / 32768, true), if s.held then s else { s with shift0 := s.shift0 * 2 % 65536 + 1 }) else
  if p = 16407 then ((o / 32 * 32 + 28 + (if s.held then s.say1 else s.shift1) / 32768, true), if s.held then s else { s with shift1 := s.shift1 * 2 % 65536 + 1 }) else
  if p = 16912 then ((o % 128 / 16 * 16 + 2 + flagV s.flagged, true), { s with flagged := false }) else
  if p = 16913 then ((o % 128 + flagV s.irq, true), { s with irq := false }) else
  if p = 16914 then ((o % 64 / 2 * 2 + stV s, true), s) else
  if p = 16915 then ((s.output, true), s) else
  if 16916 ≤ p ∧ p ≤ 16927 then ((wordV p s, true), s) else
  ((0, false), s)
theorem padA_doc (o b : Int) (o0 : 0 ≤ o) (o1 : o ≤ 255) (hb : b = 0 ∨ b = 1) : padA o b = o / 4 * 4 + b := by
  rcases hb with rfl | rfl
  · exact byte_fact (P := fun o => padA o 0 = o / 4 * 4 + 0) (by decide +kernel) o o0 o1
  · exact byte_fact (P := fun o => padA o 1 = o / 4 * 4 + 1) (by decide +kernel) o o0 o1
theorem padB_doc (o b : Int) (o0 : 0 ≤ o) (o1 : o ≤ 255) (hb : b = 0 ∨ b = 1) : padB o b = o / 32 * 32 + 28 + b := by
  rcases hb with rfl | rfl
  · exact byte_fact (P := fun o => padB o 0 = o / 32 * 32 + 28 + 0) (by decide +kernel) o o0 o1
  · exact byte_fact (P := fun o => padB o 1 = o / 32 * 32 + 28 + 1) (by decide +kernel) o o0 o1
theorem tookA_doc (o : Int) (b : Bool) (o0 : 0 ≤ o) (o1 : o ≤ 255) : tookA o b = o % 128 / 16 * 16 + 2 + flagV b := by
  cases b
  · exact byte_fact (P := fun o => tookA o false = o % 128 / 16 * 16 + 2 + flagV false) (by decide +kernel) o o0 o1
  · exact byte_fact (P := fun o => tookA o true = o % 128 / 16 * 16 + 2 + flagV true) (by decide +kernel) o o0 o1
theorem tookB_doc (o : Int) (b : Bool) (o0 : 0 ≤ o) (o1 : o ≤ 255) : tookB o b = o % 128 + flagV b := by
  cases b
  · exact byte_fact (P := fun o => tookB o false = o % 128 + flagV false) (by decide +kernel) o o0 o1
  · exact byte_fact (P := fun o => tookB o true = o % 128 + flagV true) (by decide +kernel) o o0 o1
/-- 4212's bits. -/
def stB (x y z : Bool) : Int := bits .or .u8 (bits .or .u8 (if x then 128 else 0) (if y then 64 else 0)) (if z then 1 else 0)
theorem stB_is (x y z : Bool) : stB x y z = (if x then 128 else 0) + (if y then 64 else 0) + (if z then 1 else 0) := by cases x <;> cases y <;> cases z <;> decide +kernel
theorem st_doc (o : Int) (x y z : Bool) (o0 : 0 ≤ o) (o1 : o ≤ 255) : bits .or .u8 (bits .and .u8 o 62) ((if x then 128 else 0) + (if y then 64 else 0) + (if z then 1 else 0)) = o % 64 / 2 * 2 + ((if x then 128 else 0) + (if y then 64 else 0) + (if z then 1 else 0)) := by
  cases x <;> cases y <;> cases z
  · exact byte_fact (P := fun o => bits .or .u8 (bits .and .u8 o 62) 0 = o % 64 / 2 * 2 + 0) (by decide +kernel) o o0 o1
  · exact byte_fact (P := fun o => bits .or .u8 (bits .and .u8 o 62) 1 = o % 64 / 2 * 2 + 1) (by decide +kernel) o o0 o1
  · exact byte_fact (P := fun o => bits .or .u8 (bits .and .u8 o 62) 64 = o % 64 / 2 * 2 + 64) (by decide +kernel) o o0 o1
  · exact byte_fact (P := fun o => bits .or .u8 (bits .and .u8 o 62) 65 = o % 64 / 2 * 2 + 65) (by decide +kernel) o o0 o1
  · exact byte_fact (P := fun o => bits .or .u8 (bits .and .u8 o 62) 128 = o % 64 / 2 * 2 + 128) (by decide +kernel) o o0 o1
  · exact byte_fact (P := fun o => bits .or .u8 (bits .and .u8 o 62) 129 = o % 64 / 2 * 2 + 129) (by decide +kernel) o o0 o1
  · exact byte_fact (P := fun o => bits .or .u8 (bits .and .u8 o 62) 192 = o % 64 / 2 * 2 + 192) (by decide +kernel) o o0 o1
  · exact byte_fact (P := fun o => bits .or .u8 (bits .and .u8 o 62) 193 = o % 64 / 2 * 2 + 193) (by decide +kernel) o o0 o1
theorem stV_is (s : Pt) : stV s = (if decide (Bm.lastN s.over < s.now % 357368 / 1364) then 128 else 0) + (if Bm.blankH s.now then 64 else 0) + (if decide (s.now < s.busy) then 1 else 0) := by
  unfold stV; simp
section
variable {w : World} {g : Nat} {s : Pt}
set_option maxHeartbeats 4000000 in
theorem state_any (A : Po w g s) (t0 : 0 ≤ s.now) (t1 : s.now ≤ 281474976710656) : Calls Tryz.prog 47 #[poP g] w (Says w (.int .u8 (stV s))) := by
  rw [stV_is]
  have A0 := Lib.hid A
  have c0 : w.cell? ⟨g, 0, none⟩ = some (.int .i64 s.now) := A.cell 0
  have c1 : w.cell? ⟨g, 1, none⟩ = some (.int .i64 s.busy) := A.cell 1
  have c21 : w.cell? ⟨g, 21, none⟩ = some (.bool s.over) := A.cell 21
  have lg := A.lt
  obtain ⟨t, ht⟩ : ∃ t, s.now = t := ⟨_, rfl⟩
  obtain ⟨bz, hbz⟩ : ∃ t, s.busy = t := ⟨_, rfl⟩
  obtain ⟨ov, hov⟩ : ∃ t, s.over = t := ⟨_, rfl⟩
  rw [ht] at c0 t0 t1 ⊢
  rw [hbz] at c1 ⊢
  rw [hov] at c21 ⊢
  have OF := Lib.hid (fun w' => (Bm.beamOf_yes t w' t0 t1).mono (R' := Says w' (.agg #[.int .i64 (t / 357368), .int .i64 (t % 357368 / 1364), .int .i64 (t % 1364), .int .i64 (t % 1364 / 4)])) (by rintro e w'' ⟨rfl, rfl⟩; exact ⟨rfl, belowA (Below.refl _ _) _⟩))
  have LA := Lib.hid (fun w' => (Bm.last_any ov w').mono (R' := Says w' (.int .i64 (Bm.lastN ov))) (by rintro e w'' ⟨rfl, rfl⟩; exact ⟨rfl, Below.refl _ _⟩))
  have BL := Lib.hid (fun w' => (Bm.blank_yes t ov w' t0 t1).mono (R' := Says w' (.tuple #[.bool (Bm.blankH t), .bool (Bm.blankV t ov)])) (by rintro e w'' ⟨rfl, h⟩; exact ⟨rfl, h⟩))
  obtain ⟨y, hy⟩ : ∃ b, Bm.blankH t = b := ⟨_, rfl⟩
  obtain ⟨yv, hyv⟩ : ∃ b, Bm.blankV t ov = b := ⟨_, rfl⟩
  rw [hy, hyv] at BL
  rw [hy]
  obtain ⟨ls, hls⟩ : ∃ b, Bm.lastN ov = b := ⟨_, rfl⟩
  rw [hls] at LA ⊢
  obtain ⟨L, hL⟩ : ∃ b, t % 357368 / 1364 = b := ⟨_, rfl⟩
  obtain ⟨f, hf⟩ : ∃ b, t / 357368 = b := ⟨_, rfl⟩
  obtain ⟨h, hh⟩ : ∃ b, t % 1364 = b := ⟨_, rfl⟩
  obtain ⟨d, hd⟩ : ∃ b, h / 4 = b := ⟨_, rfl⟩
  rw [hL, hf, hh, hd] at OF
  rw [hL]
  obtain ⟨x, hx⟩ : ∃ b, decide (ls < L) = b := ⟨_, rfl⟩
  obtain ⟨z, hz⟩ : ∃ b, decide (t < bz) = b := ⟨_, rfl⟩
  rw [hx, hz]
  have hst := stB_is x y z
  rw [← hst]
  unfold stB
  clear A ht hbz hov hy hyv hls hL hf hh hd hst t0 t1
  have GOAL : Hid (∀ w', Below w.heap.size w w' → w'.cell? ⟨g, 0, none⟩ = some (.int .i64 t) ∧ w'.cell? ⟨g, 1, none⟩ = some (.int .i64 bz) ∧ w'.cell? ⟨g, 21, none⟩ = some (.bool ov) ∧ g < w'.heap.size) := Lib.hid (fun w' hb => ⟨keepC hb c0, keepC hb c1, keepC hb c21, Nat.lt_of_lt_of_le lg hb.size⟩)
  clear A0
  have hfd : ∀ w' : World, (Instr.field 79 (.agg #[.int .i64 f, .int .i64 L, .int .i64 h, .int .i64 d]) 1).run Tryz.prog w' = .ok (.int .i64 L) w' := fun _ => by kernel_rfl
  cases x <;> cases y <;> cases z
  all_goals
    go_enter Tryz.func47, Tryz.ntmps47
    go_upto_region 2 with (fail)
    refine wp_region_more (by kernel_rfl) (by kernel_rfl) ?_
    repeat (go_big_quiet_step ((first | (go_at_call 62; exact quiet_more (OF.out _)) | (go_at_call 63; exact quiet_more (LA.out _)))))
    refine wpQuiet_nil ?_
    rintro _ ⟨n1, rfl⟩
    have Q1 := Lib.hid (below_more (w := w) n1)
    generalize moreOf w n1 = w1 at Q1 ⊢
    obtain ⟨c0, c1, c21, lg⟩ := GOAL.out w1 Q1.out
    go_upto_region 4 with (fail)
    refine wp_region_more (by kernel_rfl) (by kernel_rfl) ?_
    repeat (go_big_quiet_step ((go_at_call 64; exact quiet_more (BL.out _))))
    refine wpQuiet_nil ?_
    rintro _ ⟨n2, rfl⟩
    have Q2 := Lib.hid (Q1.out.trans ((below_more (w := w1) n2).mono Q1.out.size))
    generalize moreOf w1 n2 = w2 at Q2 ⊢
    obtain ⟨c0, c1, c21, lg⟩ := GOAL.out w2 Q2.out
    go_upto_region 7 with (fail)
    refine wp_region_more (by kernel_rfl) (by kernel_rfl) ?_
    repeat (go_big_quiet_step (fail))
    refine wpQuiet_nil ?_
    rintro _ ⟨n3, rfl⟩
    have Q3 := Lib.hid (Q2.out.trans ((below_more (w := w2) n3).mono Q2.out.size))
    generalize moreOf w2 n3 = w3 at Q3 ⊢
    go_wp2_with fail
    go_ret
    exact ⟨rfl, Q3.out⟩
set_option maxHeartbeats 2000000 in
theorem read_state (A : Po w g s) (t0 : 0 ≤ s.now) (t1 : s.now ≤ 281474976710656) (o : Int) (o0 : 0 ≤ o) (o1 : o ≤ 255) :
    Calls Tryz.prog 8 #[poP g, .int .u16 16914, .int .u8 o] w (Says w (.tuple #[.int .u8 (o % 64 / 2 * 2 + stV s), .bool true])) := by
  have ST := Lib.hid (state_any A t0 t1)
  have hp : bits .or .u8 (bits .and .u8 o 62) (stV s) = o % 64 / 2 * 2 + stV s := by rw [stV_is]; exact st_doc o _ _ _ o0 o1
  obtain ⟨b, hb⟩ : ∃ b, stV s = b := ⟨_, rfl⟩
  rw [hb] at ST hp ⊢
  have HP := Lib.hid hp
  clear A hb hp t0 t1
  go_enter Tryz.func8, Tryz.ntmps8
  go_wp2_with fail
  refine ST.out.mono ?_
  rintro e w1 ⟨rfl, hb1⟩
  go_wp2_with fail
  go_ret2
  exact ⟨by rw [← HP.out]; rfl, hb1⟩
set_option maxHeartbeats 2000000 in
theorem read_output (A : Po w g s) (o : Int) :
    Calls Tryz.prog 8 #[poP g, .int .u16 16915, .int .u8 o] w (Says w (.tuple #[.int .u8 s.output, .bool true])) := by
  have c4 : w.cell? ⟨g, 4, none⟩ = some (.int .u8 s.output) := A.cell 4
  clear A
  go_enter Tryz.func8, Tryz.ntmps8
  go_wp2_with fail
  go_ret2
  exact ⟨rfl, Below.refl _ _⟩
set_option maxHeartbeats 2000000 in
theorem read_none (A : Po w g s) (p o : Int) (h : p ≠ 16406 ∧ p ≠ 16407 ∧ p ≠ 16912 ∧ p ≠ 16913 ∧ p ≠ 16914 ∧ p ≠ 16915) (h2 : p < 16916 ∨ 16927 < p) :
    Calls Tryz.prog 8 #[poP g, .int .u16 p, .int .u8 o] w (Says w (.tuple #[.int .u8 0, .bool false])) := by
  obtain ⟨h0, h1, h3, h4, h5, h6⟩ := h
  have t0 : (p == 16406) = false := by simpa using h0
  have t1 : (p == 16407) = false := by simpa using h1
  have t2 : (p == 16912) = false := by simpa using h3
  have t3 : (p == 16913) = false := by simpa using h4
  have t4 : (p == 16914) = false := by simpa using h5
  have t5 : (p == 16915) = false := by simpa using h6
  clear A h0 h1 h3 h4 h5 h6
  by_cases c : p < 16916
  · have d : decide (p < 16916) = true := decide_eq_true c
    clear h2
    go_enter Tryz.func8, Tryz.ntmps8
    go_wp2_with fail
    go_ret2
    exact ⟨rfl, Below.refl _ _⟩
  · have d : decide (p < 16916) = false := decide_eq_false c
    have d2 : decide (16927 < p) = true := decide_eq_true (by omega)
    clear h2
    go_enter Tryz.func8, Tryz.ntmps8
    go_wp2_with fail
    go_ret2
    exact ⟨rfl, Below.refl _ _⟩
set_option maxHeartbeats 4000000 in
theorem read_w16916 (A : Po w g s) (F : Fit2 s) (o : Int) :
    Calls Tryz.prog 8 #[poP g, .int .u16 16916, .int .u8 o] w (Says w (.tuple #[.int .u8 (wordV 16916 s), .bool true])) := by
  have c6 : w.cell? ⟨g, 6, none⟩ = some (.int .u16 s.quotient) := A.cell 6
  have c7 : w.cell? ⟨g, 7, none⟩ = some (.int .u16 s.product) := A.cell 7
  have c15 : w.cell? ⟨g, 15, none⟩ = some (.int .u16 s.auto0) := A.cell 15
  have c16 : w.cell? ⟨g, 16, none⟩ = some (.int .u16 s.auto1) := A.cell 16
  have lg := A.lt
  have r0 := F.q0
  have r1 := F.q1
  have r2 := F.p0
  have r3 := F.p1
  have r4 := F.c0
  have r5 := F.c1
  have r6 := F.e0
  have r7 := F.e1
  have W : Hid (∀ (x : Nat) , True) := Lib.hid (fun _ => trivial)
  obtain ⟨q, hq⟩ : ∃ q, s.quotient = q := ⟨_, rfl⟩
  obtain ⟨p7, hp⟩ : ∃ q, s.product = q := ⟨_, rfl⟩
  obtain ⟨x0, hx0⟩ : ∃ q, s.auto0 = q := ⟨_, rfl⟩
  obtain ⟨x1, hx1⟩ : ∃ q, s.auto1 = q := ⟨_, rfl⟩
  have WV : wordV 16916 s = q % 256 := by
    have : wordV 16916 s = s.quotient % 256 := rfl
    rw [this]; rw [hq]
  rw [WV]
  rw [hq] at c6 r0 r1
  rw [hp] at c7 r2 r3
  rw [hx0] at c15 r4 r5
  rw [hx1] at c16 r6 r7
  clear WV W F hq hp hx0 hx1 A
  go_enter Tryz.func8, Tryz.ntmps8
  go_upto_region 18 with (fail)
  go_region_held3 (fun w' => w'.cell? ⟨g, 6, none⟩ = some (.int .u16 q) ∧ w'.cell? ⟨g, 7, none⟩ = some (.int .u16 p7) ∧ w'.cell? ⟨g, 15, none⟩ = some (.int .u16 x0) ∧ w'.cell? ⟨g, 16, none⟩ = some (.int .u16 x1) ∧ Below w.heap.size w w')
    (first
      | exact ⟨c6, c7, c15, c16, belowD (Below.refl _ _)⟩
      | exact ⟨keepAlloc c6 _, keepAlloc c7 _, keepAlloc c15 _, keepAlloc c16 _, belowD (belowA (Below.refl _ _) _)⟩
      | exact ⟨keepAlloc c6 _, keepAlloc c7 _, keepAlloc c15 _, keepAlloc c16 _, belowA (belowD (Below.refl _ _)) _⟩)
      (first | fail)
  all_goals
    go_split_ands
    go_wp2_with fail
    go_ret2
    refine ⟨?_, by assumption⟩
    have hk : (2 : Int) ^ min (IntKind.u16.wrap (8 * bits BinOp.and IntKind.u16 0 1)).toNat 16 = 1 := by decide +kernel
    rw [hk]
    rw [Int.ediv_one]
    rfl
set_option maxHeartbeats 4000000 in
theorem read_w16917 (A : Po w g s) (F : Fit2 s) (o : Int) :
    Calls Tryz.prog 8 #[poP g, .int .u16 16917, .int .u8 o] w (Says w (.tuple #[.int .u8 (wordV 16917 s), .bool true])) := by
  have c6 : w.cell? ⟨g, 6, none⟩ = some (.int .u16 s.quotient) := A.cell 6
  have c7 : w.cell? ⟨g, 7, none⟩ = some (.int .u16 s.product) := A.cell 7
  have c15 : w.cell? ⟨g, 15, none⟩ = some (.int .u16 s.auto0) := A.cell 15
  have c16 : w.cell? ⟨g, 16, none⟩ = some (.int .u16 s.auto1) := A.cell 16
  have lg := A.lt
  have r0 := F.q0
  have r1 := F.q1
  have r2 := F.p0
  have r3 := F.p1
  have r4 := F.c0
  have r5 := F.c1
  have r6 := F.e0
  have r7 := F.e1
  have W : Hid (∀ (x : Nat) , True) := Lib.hid (fun _ => trivial)
  obtain ⟨q, hq⟩ : ∃ q, s.quotient = q := ⟨_, rfl⟩
  obtain ⟨p7, hp⟩ : ∃ q, s.product = q := ⟨_, rfl⟩
  obtain ⟨x0, hx0⟩ : ∃ q, s.auto0 = q := ⟨_, rfl⟩
  obtain ⟨x1, hx1⟩ : ∃ q, s.auto1 = q := ⟨_, rfl⟩
  have WV : wordV 16917 s = q / 256 := by
    have : wordV 16917 s = s.quotient / 256 := rfl
    rw [this]; rw [hq]
  rw [WV]
  rw [hq] at c6 r0 r1
  rw [hp] at c7 r2 r3
  rw [hx0] at c15 r4 r5
  rw [hx1] at c16 r6 r7
  clear WV W F hq hp hx0 hx1 A
  go_enter Tryz.func8, Tryz.ntmps8
  go_upto_region 18 with (fail)
  go_region_held3 (fun w' => w'.cell? ⟨g, 6, none⟩ = some (.int .u16 q) ∧ w'.cell? ⟨g, 7, none⟩ = some (.int .u16 p7) ∧ w'.cell? ⟨g, 15, none⟩ = some (.int .u16 x0) ∧ w'.cell? ⟨g, 16, none⟩ = some (.int .u16 x1) ∧ Below w.heap.size w w')
    (first
      | exact ⟨c6, c7, c15, c16, belowD (Below.refl _ _)⟩
      | exact ⟨keepAlloc c6 _, keepAlloc c7 _, keepAlloc c15 _, keepAlloc c16 _, belowD (belowA (Below.refl _ _) _)⟩
      | exact ⟨keepAlloc c6 _, keepAlloc c7 _, keepAlloc c15 _, keepAlloc c16 _, belowA (belowD (Below.refl _ _)) _⟩)
      (first | fail)
  all_goals
    go_split_ands
    go_wp2_with fail
    go_ret2
    refine ⟨?_, by assumption⟩
    have hk : (2 : Int) ^ min (IntKind.u16.wrap (8 * bits BinOp.and IntKind.u16 1 1)).toNat 16 = 256 := by decide +kernel
    rw [hk]
    have ee : q / 256 % 256 = q / 256 := by omega
    rw [ee]
    rfl
set_option maxHeartbeats 4000000 in
theorem read_w16918 (A : Po w g s) (F : Fit2 s) (o : Int) :
    Calls Tryz.prog 8 #[poP g, .int .u16 16918, .int .u8 o] w (Says w (.tuple #[.int .u8 (wordV 16918 s), .bool true])) := by
  have c6 : w.cell? ⟨g, 6, none⟩ = some (.int .u16 s.quotient) := A.cell 6
  have c7 : w.cell? ⟨g, 7, none⟩ = some (.int .u16 s.product) := A.cell 7
  have c15 : w.cell? ⟨g, 15, none⟩ = some (.int .u16 s.auto0) := A.cell 15
  have c16 : w.cell? ⟨g, 16, none⟩ = some (.int .u16 s.auto1) := A.cell 16
  have lg := A.lt
  have r0 := F.q0
  have r1 := F.q1
  have r2 := F.p0
  have r3 := F.p1
  have r4 := F.c0
  have r5 := F.c1
  have r6 := F.e0
  have r7 := F.e1
  have W : Hid (∀ (x : Nat) , True) := Lib.hid (fun _ => trivial)
  obtain ⟨q, hq⟩ : ∃ q, s.quotient = q := ⟨_, rfl⟩
  obtain ⟨p7, hp⟩ : ∃ q, s.product = q := ⟨_, rfl⟩
  obtain ⟨x0, hx0⟩ : ∃ q, s.auto0 = q := ⟨_, rfl⟩
  obtain ⟨x1, hx1⟩ : ∃ q, s.auto1 = q := ⟨_, rfl⟩
  have WV : wordV 16918 s = p7 % 256 := by
    have : wordV 16918 s = s.product % 256 := rfl
    rw [this]; rw [hp]
  rw [WV]
  rw [hq] at c6 r0 r1
  rw [hp] at c7 r2 r3
  rw [hx0] at c15 r4 r5
  rw [hx1] at c16 r6 r7
  clear WV W F hq hp hx0 hx1 A
  go_enter Tryz.func8, Tryz.ntmps8
  go_upto_region 18 with (fail)
  go_region_held3 (fun w' => w'.cell? ⟨g, 6, none⟩ = some (.int .u16 q) ∧ w'.cell? ⟨g, 7, none⟩ = some (.int .u16 p7) ∧ w'.cell? ⟨g, 15, none⟩ = some (.int .u16 x0) ∧ w'.cell? ⟨g, 16, none⟩ = some (.int .u16 x1) ∧ Below w.heap.size w w')
    (first
      | exact ⟨c6, c7, c15, c16, belowD (Below.refl _ _)⟩
      | exact ⟨keepAlloc c6 _, keepAlloc c7 _, keepAlloc c15 _, keepAlloc c16 _, belowD (belowA (Below.refl _ _) _)⟩
      | exact ⟨keepAlloc c6 _, keepAlloc c7 _, keepAlloc c15 _, keepAlloc c16 _, belowA (belowD (Below.refl _ _)) _⟩)
      (first | fail)
  all_goals
    go_split_ands
    go_wp2_with fail
    go_ret2
    refine ⟨?_, by assumption⟩
    have hk : (2 : Int) ^ min (IntKind.u16.wrap (8 * bits BinOp.and IntKind.u16 2 1)).toNat 16 = 1 := by decide +kernel
    rw [hk]
    rw [Int.ediv_one]
    rfl
set_option maxHeartbeats 4000000 in
theorem read_w16919 (A : Po w g s) (F : Fit2 s) (o : Int) :
    Calls Tryz.prog 8 #[poP g, .int .u16 16919, .int .u8 o] w (Says w (.tuple #[.int .u8 (wordV 16919 s), .bool true])) := by
  have c6 : w.cell? ⟨g, 6, none⟩ = some (.int .u16 s.quotient) := A.cell 6
  have c7 : w.cell? ⟨g, 7, none⟩ = some (.int .u16 s.product) := A.cell 7
  have c15 : w.cell? ⟨g, 15, none⟩ = some (.int .u16 s.auto0) := A.cell 15
  have c16 : w.cell? ⟨g, 16, none⟩ = some (.int .u16 s.auto1) := A.cell 16
  have lg := A.lt
  have r0 := F.q0
  have r1 := F.q1
  have r2 := F.p0
  have r3 := F.p1
  have r4 := F.c0
  have r5 := F.c1
  have r6 := F.e0
  have r7 := F.e1
  have W : Hid (∀ (x : Nat) , True) := Lib.hid (fun _ => trivial)
  obtain ⟨q, hq⟩ : ∃ q, s.quotient = q := ⟨_, rfl⟩
  obtain ⟨p7, hp⟩ : ∃ q, s.product = q := ⟨_, rfl⟩
  obtain ⟨x0, hx0⟩ : ∃ q, s.auto0 = q := ⟨_, rfl⟩
  obtain ⟨x1, hx1⟩ : ∃ q, s.auto1 = q := ⟨_, rfl⟩
  have WV : wordV 16919 s = p7 / 256 := by
    have : wordV 16919 s = s.product / 256 := rfl
    rw [this]; rw [hp]
  rw [WV]
  rw [hq] at c6 r0 r1
  rw [hp] at c7 r2 r3
  rw [hx0] at c15 r4 r5
  rw [hx1] at c16 r6 r7
  clear WV W F hq hp hx0 hx1 A
  go_enter Tryz.func8, Tryz.ntmps8
  go_upto_region 18 with (fail)
  go_region_held3 (fun w' => w'.cell? ⟨g, 6, none⟩ = some (.int .u16 q) ∧ w'.cell? ⟨g, 7, none⟩ = some (.int .u16 p7) ∧ w'.cell? ⟨g, 15, none⟩ = some (.int .u16 x0) ∧ w'.cell? ⟨g, 16, none⟩ = some (.int .u16 x1) ∧ Below w.heap.size w w')
    (first
      | exact ⟨c6, c7, c15, c16, belowD (Below.refl _ _)⟩
      | exact ⟨keepAlloc c6 _, keepAlloc c7 _, keepAlloc c15 _, keepAlloc c16 _, belowD (belowA (Below.refl _ _) _)⟩
      | exact ⟨keepAlloc c6 _, keepAlloc c7 _, keepAlloc c15 _, keepAlloc c16 _, belowA (belowD (Below.refl _ _)) _⟩)
      (first | fail)
  all_goals
    go_split_ands
    go_wp2_with fail
    go_ret2
    refine ⟨?_, by assumption⟩
    have hk : (2 : Int) ^ min (IntKind.u16.wrap (8 * bits BinOp.and IntKind.u16 3 1)).toNat 16 = 256 := by decide +kernel
    rw [hk]
    have ee : p7 / 256 % 256 = p7 / 256 := by omega
    rw [ee]
    rfl
set_option maxHeartbeats 4000000 in
theorem read_w16920 (A : Po w g s) (F : Fit2 s) (o : Int) :
    Calls Tryz.prog 8 #[poP g, .int .u16 16920, .int .u8 o] w (Says w (.tuple #[.int .u8 (wordV 16920 s), .bool true])) := by
  have c6 : w.cell? ⟨g, 6, none⟩ = some (.int .u16 s.quotient) := A.cell 6
  have c7 : w.cell? ⟨g, 7, none⟩ = some (.int .u16 s.product) := A.cell 7
  have c15 : w.cell? ⟨g, 15, none⟩ = some (.int .u16 s.auto0) := A.cell 15
  have c16 : w.cell? ⟨g, 16, none⟩ = some (.int .u16 s.auto1) := A.cell 16
  have lg := A.lt
  have r0 := F.q0
  have r1 := F.q1
  have r2 := F.p0
  have r3 := F.p1
  have r4 := F.c0
  have r5 := F.c1
  have r6 := F.e0
  have r7 := F.e1
  have W : Hid (∀ (x : Nat) , True) := Lib.hid (fun _ => trivial)
  obtain ⟨q, hq⟩ : ∃ q, s.quotient = q := ⟨_, rfl⟩
  obtain ⟨p7, hp⟩ : ∃ q, s.product = q := ⟨_, rfl⟩
  obtain ⟨x0, hx0⟩ : ∃ q, s.auto0 = q := ⟨_, rfl⟩
  obtain ⟨x1, hx1⟩ : ∃ q, s.auto1 = q := ⟨_, rfl⟩
  have WV : wordV 16920 s = x0 % 256 := by
    have : wordV 16920 s = s.auto0 % 256 := rfl
    rw [this]; rw [hx0]
  rw [WV]
  rw [hq] at c6 r0 r1
  rw [hp] at c7 r2 r3
  rw [hx0] at c15 r4 r5
  rw [hx1] at c16 r6 r7
  clear WV W F hq hp hx0 hx1 A
  go_enter Tryz.func8, Tryz.ntmps8
  go_upto_region 18 with (fail)
  go_region_held3 (fun w' => w'.cell? ⟨g, 6, none⟩ = some (.int .u16 q) ∧ w'.cell? ⟨g, 7, none⟩ = some (.int .u16 p7) ∧ w'.cell? ⟨g, 15, none⟩ = some (.int .u16 x0) ∧ w'.cell? ⟨g, 16, none⟩ = some (.int .u16 x1) ∧ Below w.heap.size w w')
    (first
      | exact ⟨c6, c7, c15, c16, belowD (Below.refl _ _)⟩
      | exact ⟨keepAlloc c6 _, keepAlloc c7 _, keepAlloc c15 _, keepAlloc c16 _, belowD (belowA (Below.refl _ _) _)⟩
      | exact ⟨keepAlloc c6 _, keepAlloc c7 _, keepAlloc c15 _, keepAlloc c16 _, belowA (belowD (Below.refl _ _)) _⟩)
      (first | fail)
  all_goals
    go_split_ands
    go_wp2_with fail
    go_ret2
    refine ⟨?_, by assumption⟩
    have hk : (2 : Int) ^ min (IntKind.u16.wrap (8 * bits BinOp.and IntKind.u16 4 1)).toNat 16 = 1 := by decide +kernel
    rw [hk]
    rw [Int.ediv_one]
    rfl
set_option maxHeartbeats 4000000 in
theorem read_w16921 (A : Po w g s) (F : Fit2 s) (o : Int) :
    Calls Tryz.prog 8 #[poP g, .int .u16 16921, .int .u8 o] w (Says w (.tuple #[.int .u8 (wordV 16921 s), .bool true])) := by
  have c6 : w.cell? ⟨g, 6, none⟩ = some (.int .u16 s.quotient) := A.cell 6
  have c7 : w.cell? ⟨g, 7, none⟩ = some (.int .u16 s.product) := A.cell 7
  have c15 : w.cell? ⟨g, 15, none⟩ = some (.int .u16 s.auto0) := A.cell 15
  have c16 : w.cell? ⟨g, 16, none⟩ = some (.int .u16 s.auto1) := A.cell 16
  have lg := A.lt
  have r0 := F.q0
  have r1 := F.q1
  have r2 := F.p0
  have r3 := F.p1
  have r4 := F.c0
  have r5 := F.c1
  have r6 := F.e0
  have r7 := F.e1
  have W : Hid (∀ (x : Nat) , True) := Lib.hid (fun _ => trivial)
  obtain ⟨q, hq⟩ : ∃ q, s.quotient = q := ⟨_, rfl⟩
  obtain ⟨p7, hp⟩ : ∃ q, s.product = q := ⟨_, rfl⟩
  obtain ⟨x0, hx0⟩ : ∃ q, s.auto0 = q := ⟨_, rfl⟩
  obtain ⟨x1, hx1⟩ : ∃ q, s.auto1 = q := ⟨_, rfl⟩
  have WV : wordV 16921 s = x0 / 256 := by
    have : wordV 16921 s = s.auto0 / 256 := rfl
    rw [this]; rw [hx0]
  rw [WV]
  rw [hq] at c6 r0 r1
  rw [hp] at c7 r2 r3
  rw [hx0] at c15 r4 r5
  rw [hx1] at c16 r6 r7
  clear WV W F hq hp hx0 hx1 A
  go_enter Tryz.func8, Tryz.ntmps8
  go_upto_region 18 with (fail)
  go_region_held3 (fun w' => w'.cell? ⟨g, 6, none⟩ = some (.int .u16 q) ∧ w'.cell? ⟨g, 7, none⟩ = some (.int .u16 p7) ∧ w'.cell? ⟨g, 15, none⟩ = some (.int .u16 x0) ∧ w'.cell? ⟨g, 16, none⟩ = some (.int .u16 x1) ∧ Below w.heap.size w w')
    (first
      | exact ⟨c6, c7, c15, c16, belowD (Below.refl _ _)⟩
      | exact ⟨keepAlloc c6 _, keepAlloc c7 _, keepAlloc c15 _, keepAlloc c16 _, belowD (belowA (Below.refl _ _) _)⟩
      | exact ⟨keepAlloc c6 _, keepAlloc c7 _, keepAlloc c15 _, keepAlloc c16 _, belowA (belowD (Below.refl _ _)) _⟩)
      (first | fail)
  all_goals
    go_split_ands
    go_wp2_with fail
    go_ret2
    refine ⟨?_, by assumption⟩
    have hk : (2 : Int) ^ min (IntKind.u16.wrap (8 * bits BinOp.and IntKind.u16 5 1)).toNat 16 = 256 := by decide +kernel
    rw [hk]
    have ee : x0 / 256 % 256 = x0 / 256 := by omega
    rw [ee]
    rfl
set_option maxHeartbeats 4000000 in
theorem read_w16922 (A : Po w g s) (F : Fit2 s) (o : Int) :
    Calls Tryz.prog 8 #[poP g, .int .u16 16922, .int .u8 o] w (Says w (.tuple #[.int .u8 (wordV 16922 s), .bool true])) := by
  have c6 : w.cell? ⟨g, 6, none⟩ = some (.int .u16 s.quotient) := A.cell 6
  have c7 : w.cell? ⟨g, 7, none⟩ = some (.int .u16 s.product) := A.cell 7
  have c15 : w.cell? ⟨g, 15, none⟩ = some (.int .u16 s.auto0) := A.cell 15
  have c16 : w.cell? ⟨g, 16, none⟩ = some (.int .u16 s.auto1) := A.cell 16
  have lg := A.lt
  have r0 := F.q0
  have r1 := F.q1
  have r2 := F.p0
  have r3 := F.p1
  have r4 := F.c0
  have r5 := F.c1
  have r6 := F.e0
  have r7 := F.e1
  have W : Hid (∀ (x : Nat) , True) := Lib.hid (fun _ => trivial)
  obtain ⟨q, hq⟩ : ∃ q, s.quotient = q := ⟨_, rfl⟩
  obtain ⟨p7, hp⟩ : ∃ q, s.product = q := ⟨_, rfl⟩
  obtain ⟨x0, hx0⟩ : ∃ q, s.auto0 = q := ⟨_, rfl⟩
  obtain ⟨x1, hx1⟩ : ∃ q, s.auto1 = q := ⟨_, rfl⟩
  have WV : wordV 16922 s = x1 % 256 := by
    have : wordV 16922 s = s.auto1 % 256 := rfl
    rw [this]; rw [hx1]
  rw [WV]
  rw [hq] at c6 r0 r1
  rw [hp] at c7 r2 r3
  rw [hx0] at c15 r4 r5
  rw [hx1] at c16 r6 r7
  clear WV W F hq hp hx0 hx1 A
  go_enter Tryz.func8, Tryz.ntmps8
  go_upto_region 18 with (fail)
  go_region_held3 (fun w' => w'.cell? ⟨g, 6, none⟩ = some (.int .u16 q) ∧ w'.cell? ⟨g, 7, none⟩ = some (.int .u16 p7) ∧ w'.cell? ⟨g, 15, none⟩ = some (.int .u16 x0) ∧ w'.cell? ⟨g, 16, none⟩ = some (.int .u16 x1) ∧ Below w.heap.size w w')
    (first
      | exact ⟨c6, c7, c15, c16, belowD (Below.refl _ _)⟩
      | exact ⟨keepAlloc c6 _, keepAlloc c7 _, keepAlloc c15 _, keepAlloc c16 _, belowD (belowA (Below.refl _ _) _)⟩
      | exact ⟨keepAlloc c6 _, keepAlloc c7 _, keepAlloc c15 _, keepAlloc c16 _, belowA (belowD (Below.refl _ _)) _⟩)
      (first | fail)
  all_goals
    go_split_ands
    go_wp2_with fail
    go_ret2
    refine ⟨?_, by assumption⟩
    have hk : (2 : Int) ^ min (IntKind.u16.wrap (8 * bits BinOp.and IntKind.u16 6 1)).toNat 16 = 1 := by decide +kernel
    rw [hk]
    rw [Int.ediv_one]
    rfl
set_option maxHeartbeats 4000000 in
theorem read_w16923 (A : Po w g s) (F : Fit2 s) (o : Int) :
    Calls Tryz.prog 8 #[poP g, .int .u16 16923, .int .u8 o] w (Says w (.tuple #[.int .u8 (wordV 16923 s), .bool true])) := by
  have c6 : w.cell? ⟨g, 6, none⟩ = some (.int .u16 s.quotient) := A.cell 6
  have c7 : w.cell? ⟨g, 7, none⟩ = some (.int .u16 s.product) := A.cell 7
  have c15 : w.cell? ⟨g, 15, none⟩ = some (.int .u16 s.auto0) := A.cell 15
  have c16 : w.cell? ⟨g, 16, none⟩ = some (.int .u16 s.auto1) := A.cell 16
  have lg := A.lt
  have r0 := F.q0
  have r1 := F.q1
  have r2 := F.p0
  have r3 := F.p1
  have r4 := F.c0
  have r5 := F.c1
  have r6 := F.e0
  have r7 := F.e1
  have W : Hid (∀ (x : Nat) , True) := Lib.hid (fun _ => trivial)
  obtain ⟨q, hq⟩ : ∃ q, s.quotient = q := ⟨_, rfl⟩
  obtain ⟨p7, hp⟩ : ∃ q, s.product = q := ⟨_, rfl⟩
  obtain ⟨x0, hx0⟩ : ∃ q, s.auto0 = q := ⟨_, rfl⟩
  obtain ⟨x1, hx1⟩ : ∃ q, s.auto1 = q := ⟨_, rfl⟩
  have WV : wordV 16923 s = x1 / 256 := by
    have : wordV 16923 s = s.auto1 / 256 := rfl
    rw [this]; rw [hx1]
  rw [WV]
  rw [hq] at c6 r0 r1
  rw [hp] at c7 r2 r3
  rw [hx0] at c15 r4 r5
  rw [hx1] at c16 r6 r7
  clear WV W F hq hp hx0 hx1 A
  go_enter Tryz.func8, Tryz.ntmps8
  go_upto_region 18 with (fail)
  go_region_held3 (fun w' => w'.cell? ⟨g, 6, none⟩ = some (.int .u16 q) ∧ w'.cell? ⟨g, 7, none⟩ = some (.int .u16 p7) ∧ w'.cell? ⟨g, 15, none⟩ = some (.int .u16 x0) ∧ w'.cell? ⟨g, 16, none⟩ = some (.int .u16 x1) ∧ Below w.heap.size w w')
    (first
      | exact ⟨c6, c7, c15, c16, belowD (Below.refl _ _)⟩
      | exact ⟨keepAlloc c6 _, keepAlloc c7 _, keepAlloc c15 _, keepAlloc c16 _, belowD (belowA (Below.refl _ _) _)⟩
      | exact ⟨keepAlloc c6 _, keepAlloc c7 _, keepAlloc c15 _, keepAlloc c16 _, belowA (belowD (Below.refl _ _)) _⟩)
      (first | fail)
  all_goals
    go_split_ands
    go_wp2_with fail
    go_ret2
    refine ⟨?_, by assumption⟩
    have hk : (2 : Int) ^ min (IntKind.u16.wrap (8 * bits BinOp.and IntKind.u16 7 1)).toNat 16 = 256 := by decide +kernel
    rw [hk]
    have ee : x1 / 256 % 256 = x1 / 256 := by omega
    rw [ee]
    rfl
set_option maxHeartbeats 4000000 in
theorem read_w16924 (A : Po w g s) (F : Fit2 s) (o : Int) :
    Calls Tryz.prog 8 #[poP g, .int .u16 16924, .int .u8 o] w (Says w (.tuple #[.int .u8 (wordV 16924 s), .bool true])) := by
  have c6 : w.cell? ⟨g, 6, none⟩ = some (.int .u16 s.quotient) := A.cell 6
  have c7 : w.cell? ⟨g, 7, none⟩ = some (.int .u16 s.product) := A.cell 7
  have c15 : w.cell? ⟨g, 15, none⟩ = some (.int .u16 s.auto0) := A.cell 15
  have c16 : w.cell? ⟨g, 16, none⟩ = some (.int .u16 s.auto1) := A.cell 16
  have lg := A.lt
  have r0 := F.q0
  have r1 := F.q1
  have r2 := F.p0
  have r3 := F.p1
  have r4 := F.c0
  have r5 := F.c1
  have r6 := F.e0
  have r7 := F.e1
  have W : Hid (∀ (x : Nat) , True) := Lib.hid (fun _ => trivial)
  obtain ⟨q, hq⟩ : ∃ q, s.quotient = q := ⟨_, rfl⟩
  obtain ⟨p7, hp⟩ : ∃ q, s.product = q := ⟨_, rfl⟩
  obtain ⟨x0, hx0⟩ : ∃ q, s.auto0 = q := ⟨_, rfl⟩
  obtain ⟨x1, hx1⟩ : ∃ q, s.auto1 = q := ⟨_, rfl⟩
  have WV : wordV 16924 s = 0 := by
    have : wordV 16924 s = 0 := rfl
    rw [this]
  rw [WV]
  rw [hq] at c6 r0 r1
  rw [hp] at c7 r2 r3
  rw [hx0] at c15 r4 r5
  rw [hx1] at c16 r6 r7
  clear WV W F hq hp hx0 hx1 A
  go_enter Tryz.func8, Tryz.ntmps8
  go_upto_region 18 with (fail)
  go_region_held3 (fun w' => w'.cell? ⟨g, 6, none⟩ = some (.int .u16 q) ∧ w'.cell? ⟨g, 7, none⟩ = some (.int .u16 p7) ∧ w'.cell? ⟨g, 15, none⟩ = some (.int .u16 x0) ∧ w'.cell? ⟨g, 16, none⟩ = some (.int .u16 x1) ∧ Below w.heap.size w w')
    (first
      | exact ⟨c6, c7, c15, c16, belowD (Below.refl _ _)⟩
      | exact ⟨keepAlloc c6 _, keepAlloc c7 _, keepAlloc c15 _, keepAlloc c16 _, belowD (belowA (Below.refl _ _) _)⟩
      | exact ⟨keepAlloc c6 _, keepAlloc c7 _, keepAlloc c15 _, keepAlloc c16 _, belowA (belowD (Below.refl _ _)) _⟩)
      (first | fail)
  all_goals
    go_split_ands
    go_wp2_with fail
    go_ret2
    refine ⟨?_, by assumption⟩
    first | rfl | (simp; done)
set_option maxHeartbeats 4000000 in
theorem read_w16925 (A : Po w g s) (F : Fit2 s) (o : Int) :
    Calls Tryz.prog 8 #[poP g, .int .u16 16925, .int .u8 o] w (Says w (.tuple #[.int .u8 (wordV 16925 s), .bool true])) := by
  have c6 : w.cell? ⟨g, 6, none⟩ = some (.int .u16 s.quotient) := A.cell 6
  have c7 : w.cell? ⟨g, 7, none⟩ = some (.int .u16 s.product) := A.cell 7
  have c15 : w.cell? ⟨g, 15, none⟩ = some (.int .u16 s.auto0) := A.cell 15
  have c16 : w.cell? ⟨g, 16, none⟩ = some (.int .u16 s.auto1) := A.cell 16
  have lg := A.lt
  have r0 := F.q0
  have r1 := F.q1
  have r2 := F.p0
  have r3 := F.p1
  have r4 := F.c0
  have r5 := F.c1
  have r6 := F.e0
  have r7 := F.e1
  have W : Hid (∀ (x : Nat) , True) := Lib.hid (fun _ => trivial)
  obtain ⟨q, hq⟩ : ∃ q, s.quotient = q := ⟨_, rfl⟩
  obtain ⟨p7, hp⟩ : ∃ q, s.product = q := ⟨_, rfl⟩
  obtain ⟨x0, hx0⟩ : ∃ q, s.auto0 = q := ⟨_, rfl⟩
  obtain ⟨x1, hx1⟩ : ∃ q, s.auto1 = q := ⟨_, rfl⟩
  have WV : wordV 16925 s = 0 := by
    have : wordV 16925 s = 0 := rfl
    rw [this]
  rw [WV]
  rw [hq] at c6 r0 r1
  rw [hp] at c7 r2 r3
  rw [hx0] at c15 r4 r5
  rw [hx1] at c16 r6 r7
  clear WV W F hq hp hx0 hx1 A
  go_enter Tryz.func8, Tryz.ntmps8
  go_upto_region 18 with (fail)
  go_region_held3 (fun w' => w'.cell? ⟨g, 6, none⟩ = some (.int .u16 q) ∧ w'.cell? ⟨g, 7, none⟩ = some (.int .u16 p7) ∧ w'.cell? ⟨g, 15, none⟩ = some (.int .u16 x0) ∧ w'.cell? ⟨g, 16, none⟩ = some (.int .u16 x1) ∧ Below w.heap.size w w')
    (first
      | exact ⟨c6, c7, c15, c16, belowD (Below.refl _ _)⟩
      | exact ⟨keepAlloc c6 _, keepAlloc c7 _, keepAlloc c15 _, keepAlloc c16 _, belowD (belowA (Below.refl _ _) _)⟩
      | exact ⟨keepAlloc c6 _, keepAlloc c7 _, keepAlloc c15 _, keepAlloc c16 _, belowA (belowD (Below.refl _ _)) _⟩)
      (first | fail)
  all_goals
    go_split_ands
    go_wp2_with fail
    go_ret2
    refine ⟨?_, by assumption⟩
    first | rfl | (simp; done)
set_option maxHeartbeats 4000000 in
theorem read_w16926 (A : Po w g s) (F : Fit2 s) (o : Int) :
    Calls Tryz.prog 8 #[poP g, .int .u16 16926, .int .u8 o] w (Says w (.tuple #[.int .u8 (wordV 16926 s), .bool true])) := by
  have c6 : w.cell? ⟨g, 6, none⟩ = some (.int .u16 s.quotient) := A.cell 6
  have c7 : w.cell? ⟨g, 7, none⟩ = some (.int .u16 s.product) := A.cell 7
  have c15 : w.cell? ⟨g, 15, none⟩ = some (.int .u16 s.auto0) := A.cell 15
  have c16 : w.cell? ⟨g, 16, none⟩ = some (.int .u16 s.auto1) := A.cell 16
  have lg := A.lt
  have r0 := F.q0
  have r1 := F.q1
  have r2 := F.p0
  have r3 := F.p1
  have r4 := F.c0
  have r5 := F.c1
  have r6 := F.e0
  have r7 := F.e1
  have W : Hid (∀ (x : Nat) , True) := Lib.hid (fun _ => trivial)
  obtain ⟨q, hq⟩ : ∃ q, s.quotient = q := ⟨_, rfl⟩
  obtain ⟨p7, hp⟩ : ∃ q, s.product = q := ⟨_, rfl⟩
  obtain ⟨x0, hx0⟩ : ∃ q, s.auto0 = q := ⟨_, rfl⟩
  obtain ⟨x1, hx1⟩ : ∃ q, s.auto1 = q := ⟨_, rfl⟩
  have WV : wordV 16926 s = 0 := by
    have : wordV 16926 s = 0 := rfl
    rw [this]
  rw [WV]
  rw [hq] at c6 r0 r1
  rw [hp] at c7 r2 r3
  rw [hx0] at c15 r4 r5
  rw [hx1] at c16 r6 r7
  clear WV W F hq hp hx0 hx1 A
  go_enter Tryz.func8, Tryz.ntmps8
  go_upto_region 18 with (fail)
  go_region_held3 (fun w' => w'.cell? ⟨g, 6, none⟩ = some (.int .u16 q) ∧ w'.cell? ⟨g, 7, none⟩ = some (.int .u16 p7) ∧ w'.cell? ⟨g, 15, none⟩ = some (.int .u16 x0) ∧ w'.cell? ⟨g, 16, none⟩ = some (.int .u16 x1) ∧ Below w.heap.size w w')
    (first
      | exact ⟨c6, c7, c15, c16, belowD (Below.refl _ _)⟩
      | exact ⟨keepAlloc c6 _, keepAlloc c7 _, keepAlloc c15 _, keepAlloc c16 _, belowD (belowA (Below.refl _ _) _)⟩
      | exact ⟨keepAlloc c6 _, keepAlloc c7 _, keepAlloc c15 _, keepAlloc c16 _, belowA (belowD (Below.refl _ _)) _⟩)
      (first | fail)
  all_goals
    go_split_ands
    go_wp2_with fail
    go_ret2
    refine ⟨?_, by assumption⟩
    first | rfl | (simp; done)
set_option maxHeartbeats 4000000 in
theorem read_w16927 (A : Po w g s) (F : Fit2 s) (o : Int) :
    Calls Tryz.prog 8 #[poP g, .int .u16 16927, .int .u8 o] w (Says w (.tuple #[.int .u8 (wordV 16927 s), .bool true])) := by
  have c6 : w.cell? ⟨g, 6, none⟩ = some (.int .u16 s.quotient) := A.cell 6
  have c7 : w.cell? ⟨g, 7, none⟩ = some (.int .u16 s.product) := A.cell 7
  have c15 : w.cell? ⟨g, 15, none⟩ = some (.int .u16 s.auto0) := A.cell 15
  have c16 : w.cell? ⟨g, 16, none⟩ = some (.int .u16 s.auto1) := A.cell 16
  have lg := A.lt
  have r0 := F.q0
  have r1 := F.q1
  have r2 := F.p0
  have r3 := F.p1
  have r4 := F.c0
  have r5 := F.c1
  have r6 := F.e0
  have r7 := F.e1
  have W : Hid (∀ (x : Nat) , True) := Lib.hid (fun _ => trivial)
  obtain ⟨q, hq⟩ : ∃ q, s.quotient = q := ⟨_, rfl⟩
  obtain ⟨p7, hp⟩ : ∃ q, s.product = q := ⟨_, rfl⟩
  obtain ⟨x0, hx0⟩ : ∃ q, s.auto0 = q := ⟨_, rfl⟩
  obtain ⟨x1, hx1⟩ : ∃ q, s.auto1 = q := ⟨_, rfl⟩
  have WV : wordV 16927 s = 0 := by
    have : wordV 16927 s = 0 := rfl
    rw [this]
  rw [WV]
  rw [hq] at c6 r0 r1
  rw [hp] at c7 r2 r3
  rw [hx0] at c15 r4 r5
  rw [hx1] at c16 r6 r7
  clear WV W F hq hp hx0 hx1 A
  go_enter Tryz.func8, Tryz.ntmps8
  go_upto_region 18 with (fail)
  go_region_held3 (fun w' => w'.cell? ⟨g, 6, none⟩ = some (.int .u16 q) ∧ w'.cell? ⟨g, 7, none⟩ = some (.int .u16 p7) ∧ w'.cell? ⟨g, 15, none⟩ = some (.int .u16 x0) ∧ w'.cell? ⟨g, 16, none⟩ = some (.int .u16 x1) ∧ Below w.heap.size w w')
    (first
      | exact ⟨c6, c7, c15, c16, belowD (Below.refl _ _)⟩
      | exact ⟨keepAlloc c6 _, keepAlloc c7 _, keepAlloc c15 _, keepAlloc c16 _, belowD (belowA (Below.refl _ _) _)⟩
      | exact ⟨keepAlloc c6 _, keepAlloc c7 _, keepAlloc c15 _, keepAlloc c16 _, belowA (belowD (Below.refl _ _)) _⟩)
      (first | fail)
  all_goals
    go_split_ands
    go_wp2_with fail
    go_ret2
    refine ⟨?_, by assumption⟩
    first | rfl | (simp; done)
end
end Go.Proofs.YtniagcbajjmopaaGreat
