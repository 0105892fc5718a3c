/- dma: can a state be? -/
import Derived.Test.YtkeikkkcmackeaaDmaV
namespace Go.Proofs.Ytkeikkkcmackeaa
open Go.RowKit
set_option linter.unusedVariables false
set_option linter.unusedSimpArgs false
set_option maxRecDepth 100000
section
variable {w : World} {g : Nat} {f : Nat → Int}
set_option maxHeartbeats 8000000 in
theorem can_a (A : Da w g f) (R : Rng f) (b : Bool) (h : CanA (f 96) (f 97) (f 101) (f 102) (f 103) b) : Calls Try.prog 88 #[at_ g 0] w (Says w (.bool b)) := by
  have c0 : w.cell? ⟨g, 96, none⟩ = some (.int .u8 (f 96)) := A.cell (by omega)
  have c1 : w.cell? ⟨g, 97, none⟩ = some (.int .u8 (f 97)) := A.cell (by omega)
  have cw : w.cell? ⟨g, 101, none⟩ = some (.int .u8 (f 101)) := A.cell (by omega)
  have cb : w.cell? ⟨g, 102, none⟩ = some (.int .u8 (f 102)) := A.cell (by omega)
  have cs : w.cell? ⟨g, 103, none⟩ = some (.int .u8 (f 103)) := A.cell (by omega)
  obtain ⟨r0, r0'⟩ := R 96
  obtain ⟨r1, r1'⟩ := R 97
  obtain ⟨rw_, rw'⟩ := R 101
  obtain ⟨rb, rb'⟩ := R 102
  obtain ⟨rs, rs'⟩ := R 103
  clear A R
  generalize f 96 = x0 at *
  generalize f 97 = x1 at *
  generalize f 101 = xw at *
  generalize f 102 = xb at *
  generalize f 103 = xs at *
  unfold CanA at h
  rcases h with ⟨h1, rfl⟩ | ⟨h1, h2, rfl, rfl⟩ | ⟨h1, h2, h3, rfl⟩ | ⟨h1, h2, h3, h4, rfl⟩ | ⟨h1, h2, rfl, h3, rfl⟩ | ⟨h1, h2, h3, rfl, h4, rfl⟩ | ⟨h1, h2, rfl, rfl, h3, rfl⟩ | ⟨h1, h2, h3, rfl, rfl, h4, rfl⟩ | ⟨h1, h2, rfl, rfl, rfl, rfl⟩ | ⟨h1, h2, h3, rfl, rfl, rfl, rfl⟩
  all_goals
    try (have q0 : decide (4 ≤ x1) = true := decide_eq_true (by omega))
    try (have q0 : decide (4 ≤ x1) = false := decide_eq_false (by omega))
    try (have q1 : decide (3 < x1) = true := decide_eq_true (by omega))
    try (have q1 : decide (3 < x1) = false := decide_eq_false (by omega))
    try (have q2 : decide (0 < x1) = true := decide_eq_true (by omega))
    try (have q2 : decide (0 < x1) = false := decide_eq_false (by omega))
    try (have q3 : (x0 == 0) = true := by rw [beq_iff_eq]; omega)
    try (have q3 : (x0 == 0) = false := by rw [beq_eq_false_iff_ne]; omega)
    try (have q4 : decide (2 < xw) = true := decide_eq_true (by omega))
    try (have q4 : decide (2 < xw) = false := decide_eq_false (by omega))
    try (have q5 : (xw == 0) = true := by rw [beq_iff_eq]; omega)
    try (have q5 : (xw == 0) = false := by rw [beq_eq_false_iff_ne]; omega)
    try (have q6 : (xw == 2) = true := by rw [beq_iff_eq]; omega)
    try (have q6 : (xw == 2) = false := by rw [beq_eq_false_iff_ne]; omega)
    try (have q7 : (xb == 0) = true := by rw [beq_iff_eq]; omega)
    try (have q7 : (xb == 0) = false := by rw [beq_eq_false_iff_ne]; omega)
    try (have q8 : decide (10 < xs) = true := decide_eq_true (by omega))
    try (have q8 : decide (10 < xs) = false := decide_eq_false (by omega))
    try (have q9 : decide (4 ≤ xs) = true := decide_eq_true (by omega))
    try (have q9 : decide (4 ≤ xs) = false := decide_eq_false (by omega))
    try (have q10 : decide (3 < xs) = true := decide_eq_true (by omega))
    try (have q10 : decide (3 < xs) = false := decide_eq_false (by omega))
    try (have q11 : decide (xs < 8) = true := decide_eq_true (by omega))
    try (have q11 : decide (xs < 8) = false := decide_eq_false (by omega))
    try (have q12 : decide (8 ≤ xs) = true := decide_eq_true (by omega))
    try (have q12 : decide (8 ≤ xs) = false := decide_eq_false (by omega))
    try (have q13 : decide (xs < 4) = true := decide_eq_true (by omega))
    try (have q13 : decide (xs < 4) = false := decide_eq_false (by omega))
    try (have q14 : (xs == 0) = true := by rw [beq_iff_eq]; omega)
    try (have q14 : (xs == 0) = false := by rw [beq_eq_false_iff_ne]; omega)
    go_enter Try.func88, Try.ntmps88
    try simp only [List.append_eq, List.cons_append, List.nil_append]
    go_wp2_with fail
    first | go_ret | go_ret2
    exact ⟨rfl, Below.refl _ _⟩
set_option maxHeartbeats 16000000 in
theorem can_b (A : Da w g f) (R : Rng f) (b : Bool) (h1 : ¬ 3 < f 97) (h2 : ¬ 0 < f 97 ∨ (0 < f 97 ∧ ¬ f 96 = 0)) (h3 : ¬ f 101 = 0) (h4 : ¬ 2 < f 101) (h : CanB (f 101) (f 102) (f 103) (bitN (f 100) (lowC (f 102))) b) : Calls Try.prog 88 #[at_ g 0] w (Says w (.bool b)) := by
  have AA := Lib.hid A
  have c0 : w.cell? ⟨g, 96, none⟩ = some (.int .u8 (f 96)) := A.cell (by omega)
  have c1 : w.cell? ⟨g, 97, none⟩ = some (.int .u8 (f 97)) := A.cell (by omega)
  have cw : w.cell? ⟨g, 101, none⟩ = some (.int .u8 (f 101)) := A.cell (by omega)
  have cb : w.cell? ⟨g, 102, none⟩ = some (.int .u8 (f 102)) := A.cell (by omega)
  have KP : Hid (∀ w', Below w.heap.size w w' → w'.cell? ⟨g, 100, none⟩ = some (.int .u8 (f 100)) ∧ w'.cell? ⟨g, 101, none⟩ = some (.int .u8 (f 101)) ∧ w'.cell? ⟨g, 103, none⟩ = some (.int .u8 (f 103))) := Lib.hid (fun w' k => ⟨(A.kept k).cell (by omega), (A.kept k).cell (by omega), (A.kept k).cell (by omega)⟩)
  have LN : Hid (∀ w', Below w.heap.size w w' → f 102 = 0 → Calls Try.prog 37 #[at_ g 0, .int .u8 0] w' (Says w' (.tuple #[.pointer none, .int .u8 0]))) := Lib.hid (fun w' k _ => least_none (A.kept k))
  have LY : Hid (∀ w', Below w.heap.size w w' → ¬ f 102 = 0 → Calls Try.prog 37 #[at_ g 0, .int .u8 (f 102)] w' (Says w' (.tuple #[chP g (lowC (f 102) * 12), .int .u8 (bitOf (lowC (f 102)))]))) := Lib.hid (fun w' k hn => by
    have r := R 102
    have l := low_lt (f 102) (by omega) r.2
    exact least_any (A.kept k) _ l.1 _ ⟨by omega, r.2, l.2⟩)
  have BT : Hid (¬ f 102 = 0 → (bits .and .u8 (f 100) (bitOf (lowC (f 102))) != 0) = decide (bitN (f 100) (lowC (f 102)) = 1)) := Lib.hid (fun hn => by
    have r := R 102
    exact and_bit _ (R 100).1 (R 100).2 _ (low_lt (f 102) (by omega) r.2).1)
  obtain ⟨r0, r0'⟩ := R 96
  obtain ⟨r1, r1'⟩ := R 97
  obtain ⟨rd, rd'⟩ := R 100
  obtain ⟨rw_, rw'⟩ := R 101
  obtain ⟨rb, rb'⟩ := R 102
  obtain ⟨rs, rs'⟩ := R 103
  clear A R
  generalize lowC (f 102) = c at *
  generalize bitN (f 100) c = y at *
  generalize f 96 = x0 at *
  generalize f 97 = x1 at *
  generalize f 100 = xd at *
  generalize f 101 = xw at *
  generalize f 102 = xb at *
  generalize f 103 = xs at *
  unfold CanB at h
  rcases h with ⟨rfl, rfl⟩ | h
  · rcases h2 with h2 | ⟨h2, h5⟩
    all_goals
      try (have q0 : decide (4 ≤ x1) = true := decide_eq_true (by omega))
      try (have q0 : decide (4 ≤ x1) = false := decide_eq_false (by omega))
      try (have q1 : decide (3 < x1) = true := decide_eq_true (by omega))
      try (have q1 : decide (3 < x1) = false := decide_eq_false (by omega))
      try (have q2 : decide (0 < x1) = true := decide_eq_true (by omega))
      try (have q2 : decide (0 < x1) = false := decide_eq_false (by omega))
      try (have q3 : (x0 == 0) = true := by rw [beq_iff_eq]; omega)
      try (have q3 : (x0 == 0) = false := by rw [beq_eq_false_iff_ne]; omega)
      try (have q4 : decide (2 < xw) = true := decide_eq_true (by omega))
      try (have q4 : decide (2 < xw) = false := decide_eq_false (by omega))
      try (have q5 : (xw == 0) = true := by rw [beq_iff_eq]; omega)
      try (have q5 : (xw == 0) = false := by rw [beq_eq_false_iff_ne]; omega)
      try (have q6 : (xw == 2) = true := by rw [beq_iff_eq]; omega)
      try (have q6 : (xw == 2) = false := by rw [beq_eq_false_iff_ne]; omega)
      try (have q7 : decide (10 < xs) = true := decide_eq_true (by omega))
      try (have q7 : decide (10 < xs) = false := decide_eq_false (by omega))
      try (have q8 : decide (4 ≤ xs) = true := decide_eq_true (by omega))
      try (have q8 : decide (4 ≤ xs) = false := decide_eq_false (by omega))
      try (have q9 : decide (3 < xs) = true := decide_eq_true (by omega))
      try (have q9 : decide (3 < xs) = false := decide_eq_false (by omega))
      try (have q10 : decide (xs < 8) = true := decide_eq_true (by omega))
      try (have q10 : decide (xs < 8) = false := decide_eq_false (by omega))
      try (have q11 : decide (8 ≤ xs) = true := decide_eq_true (by omega))
      try (have q11 : decide (8 ≤ xs) = false := decide_eq_false (by omega))
      try (have q12 : decide (xs < 4) = true := decide_eq_true (by omega))
      try (have q12 : decide (xs < 4) = false := decide_eq_false (by omega))
      try (have q13 : (xs == 0) = true := by rw [beq_iff_eq]; omega)
      try (have q13 : (xs == 0) = false := by rw [beq_eq_false_iff_ne]; omega)
      go_enter Try.func88, Try.ntmps88
      try simp only [List.append_eq, List.cons_append, List.nil_append]
      go_wp2_with fail
      refine (LN.out _ (Below.refl _ _) (by trivial)).mono ?_
      rintro e w1 ⟨rfl, b1⟩
      obtain ⟨k0, k1, k2⟩ := KP.out w1 b1
      have B1 := Lib.hid b1
      clear b1
      go_wp2_with fail
      first | go_ret | go_ret2
      exact ⟨rfl, B1.out⟩
  · have hn : ¬ xb = 0 := by rcases h with h | h | h | h | h | h <;> exact h.1
    have hbt := BT.out hn
    have LZ := Lib.hid (LY.out w (Below.refl _ _) hn)
    obtain ⟨bc, hbc⟩ : ∃ bc, bitOf c = bc := ⟨_, rfl⟩
    rw [hbc] at hbt LZ
    clear hbc BT LY LN
    rcases h2 with h2 | ⟨h2, hx⟩
    all_goals
      rcases h with ⟨_, h5, rfl⟩ | ⟨_, h5, h6, rfl⟩ | ⟨_, h5, h6, rfl⟩ | ⟨_, h5, h6, rfl⟩ | ⟨_, h5, rfl, h6, rfl⟩ | ⟨_, h5, rfl, rfl, rfl⟩
      all_goals
        try simp only [decide_true, decide_eq_true_eq] at hbt
        try rw [decide_eq_false (by assumption)] at hbt
        try (have q0 : decide (4 ≤ x1) = true := decide_eq_true (by omega))
        try (have q0 : decide (4 ≤ x1) = false := decide_eq_false (by omega))
        try (have q1 : decide (3 < x1) = true := decide_eq_true (by omega))
        try (have q1 : decide (3 < x1) = false := decide_eq_false (by omega))
        try (have q2 : decide (0 < x1) = true := decide_eq_true (by omega))
        try (have q2 : decide (0 < x1) = false := decide_eq_false (by omega))
        try (have q3 : (x0 == 0) = true := by rw [beq_iff_eq]; omega)
        try (have q3 : (x0 == 0) = false := by rw [beq_eq_false_iff_ne]; omega)
        try (have q4 : decide (2 < xw) = true := decide_eq_true (by omega))
        try (have q4 : decide (2 < xw) = false := decide_eq_false (by omega))
        try (have q5 : (xw == 0) = true := by rw [beq_iff_eq]; omega)
        try (have q5 : (xw == 0) = false := by rw [beq_eq_false_iff_ne]; omega)
        try (have q6 : (xw == 2) = true := by rw [beq_iff_eq]; omega)
        try (have q6 : (xw == 2) = false := by rw [beq_eq_false_iff_ne]; omega)
        try (have q7 : (xb == 0) = true := by rw [beq_iff_eq]; omega)
        try (have q7 : (xb == 0) = false := by rw [beq_eq_false_iff_ne]; omega)
        try (have q8 : decide (10 < xs) = true := decide_eq_true (by omega))
        try (have q8 : decide (10 < xs) = false := decide_eq_false (by omega))
        try (have q9 : decide (4 ≤ xs) = true := decide_eq_true (by omega))
        try (have q9 : decide (4 ≤ xs) = false := decide_eq_false (by omega))
        try (have q10 : decide (3 < xs) = true := decide_eq_true (by omega))
        try (have q10 : decide (3 < xs) = false := decide_eq_false (by omega))
        try (have q11 : decide (xs < 8) = true := decide_eq_true (by omega))
        try (have q11 : decide (xs < 8) = false := decide_eq_false (by omega))
        try (have q12 : decide (8 ≤ xs) = true := decide_eq_true (by omega))
        try (have q12 : decide (8 ≤ xs) = false := decide_eq_false (by omega))
        try (have q13 : decide (xs < 4) = true := decide_eq_true (by omega))
        try (have q13 : decide (xs < 4) = false := decide_eq_false (by omega))
        try (have q14 : (xs == 0) = true := by rw [beq_iff_eq]; omega)
        try (have q14 : (xs == 0) = false := by rw [beq_eq_false_iff_ne]; omega)
        go_enter Try.func88, Try.ntmps88
        try simp only [List.append_eq, List.cons_append, List.nil_append]
        go_wp2_with fail
        refine LZ.out.mono ?_
        rintro e w1 ⟨rfl, b1⟩
        obtain ⟨k0, k1, k2⟩ := KP.out w1 b1
        have B1 := Lib.hid b1
        clear b1 c0 c1 cw cb
        go_wp2_with fail
        first | go_ret | go_ret2
        exact ⟨by first | rfl | (simp only [hbt]; done) | simp [hbt], B1.out⟩
theorem can_any (A : Da w g f) (R : Rng f) : Calls Try.prog 88 #[at_ g 0] w (Says w (.bool (canD f))) := by
  obtain ⟨b, hb, h | ⟨h1, h2, h3, h4, h⟩⟩ := canP_cases f
  · rw [hb]; exact can_a A R b h
  · rw [hb]; exact can_b A R b h1 h2 h3 h4 h
set_option maxHeartbeats 8000000 in
theorem rcan_a (A : Ra w g f) (R : Rng f) (b : Bool) (h : CanA (f 96) (f 97) (f 101) (f 102) (f 103) b) : Calls Try.prog 33 #[at_ g 0] w (Says w (.bool b)) := by
  have c0 : w.cell? ⟨g, 96, none⟩ = some (.int .u8 (f 96)) := A.cell (by omega)
  have c1 : w.cell? ⟨g, 97, none⟩ = some (.int .u8 (f 97)) := A.cell (by omega)
  have cw : w.cell? ⟨g, 101, none⟩ = some (.int .u8 (f 101)) := A.cell (by omega)
  have cb : w.cell? ⟨g, 102, none⟩ = some (.int .u8 (f 102)) := A.cell (by omega)
  have cs : w.cell? ⟨g, 103, none⟩ = some (.int .u8 (f 103)) := A.cell (by omega)
  obtain ⟨r0, r0'⟩ := R 96
  obtain ⟨r1, r1'⟩ := R 97
  obtain ⟨rw_, rw'⟩ := R 101
  obtain ⟨rb, rb'⟩ := R 102
  obtain ⟨rs, rs'⟩ := R 103
  clear A R
  generalize f 96 = x0 at *
  generalize f 97 = x1 at *
  generalize f 101 = xw at *
  generalize f 102 = xb at *
  generalize f 103 = xs at *
  unfold CanA at h
  rcases h with ⟨h1, rfl⟩ | ⟨h1, h2, rfl, rfl⟩ | ⟨h1, h2, h3, rfl⟩ | ⟨h1, h2, h3, h4, rfl⟩ | ⟨h1, h2, rfl, h3, rfl⟩ | ⟨h1, h2, h3, rfl, h4, rfl⟩ | ⟨h1, h2, rfl, rfl, h3, rfl⟩ | ⟨h1, h2, h3, rfl, rfl, h4, rfl⟩ | ⟨h1, h2, rfl, rfl, rfl, rfl⟩ | ⟨h1, h2, h3, rfl, rfl, rfl, rfl⟩
  all_goals
    try (have q0 : decide (4 ≤ x1) = true := decide_eq_true (by omega))
    try (have q0 : decide (4 ≤ x1) = false := decide_eq_false (by omega))
    try (have q1 : decide (3 < x1) = true := decide_eq_true (by omega))
    try (have q1 : decide (3 < x1) = false := decide_eq_false (by omega))
    try (have q2 : decide (0 < x1) = true := decide_eq_true (by omega))
    try (have q2 : decide (0 < x1) = false := decide_eq_false (by omega))
    try (have q3 : (x0 == 0) = true := by rw [beq_iff_eq]; omega)
    try (have q3 : (x0 == 0) = false := by rw [beq_eq_false_iff_ne]; omega)
    try (have q4 : decide (2 < xw) = true := decide_eq_true (by omega))
    try (have q4 : decide (2 < xw) = false := decide_eq_false (by omega))
    try (have q5 : (xw == 0) = true := by rw [beq_iff_eq]; omega)
    try (have q5 : (xw == 0) = false := by rw [beq_eq_false_iff_ne]; omega)
    try (have q6 : (xw == 2) = true := by rw [beq_iff_eq]; omega)
    try (have q6 : (xw == 2) = false := by rw [beq_eq_false_iff_ne]; omega)
    try (have q7 : (xb == 0) = true := by rw [beq_iff_eq]; omega)
    try (have q7 : (xb == 0) = false := by rw [beq_eq_false_iff_ne]; omega)
    try (have q8 : decide (10 < xs) = true := decide_eq_true (by omega))
    try (have q8 : decide (10 < xs) = false := decide_eq_false (by omega))
    try (have q9 : decide (4 ≤ xs) = true := decide_eq_true (by omega))
    try (have q9 : decide (4 ≤ xs) = false := decide_eq_false (by omega))
    try (have q10 : decide (3 < xs) = true := decide_eq_true (by omega))
    try (have q10 : decide (3 < xs) = false := decide_eq_false (by omega))
    try (have q11 : decide (xs < 8) = true := decide_eq_true (by omega))
    try (have q11 : decide (xs < 8) = false := decide_eq_false (by omega))
    try (have q12 : decide (8 ≤ xs) = true := decide_eq_true (by omega))
    try (have q12 : decide (8 ≤ xs) = false := decide_eq_false (by omega))
    try (have q13 : decide (xs < 4) = true := decide_eq_true (by omega))
    try (have q13 : decide (xs < 4) = false := decide_eq_false (by omega))
    try (have q14 : (xs == 0) = true := by rw [beq_iff_eq]; omega)
    try (have q14 : (xs == 0) = false := by rw [beq_eq_false_iff_ne]; omega)
    go_enter Try.func33, Try.ntmps33
    try simp only [List.append_eq, List.cons_append, List.nil_append]
    go_wp2_with fail
    first | go_ret | go_ret2
    exact ⟨rfl, Below.refl _ _⟩
set_option maxHeartbeats 16000000 in
theorem rcan_b (A : Ra w g f) (R : Rng f) (b : Bool) (h1 : ¬ 3 < f 97) (h2 : ¬ 0 < f 97 ∨ (0 < f 97 ∧ ¬ f 96 = 0)) (h3 : ¬ f 101 = 0) (h4 : ¬ 2 < f 101) (h : CanB (f 101) (f 102) (f 103) (bitN (f 100) (lowC (f 102))) b) : Calls Try.prog 33 #[at_ g 0] w (Says w (.bool b)) := by
  have AA := Lib.hid A
  have c0 : w.cell? ⟨g, 96, none⟩ = some (.int .u8 (f 96)) := A.cell (by omega)
  have c1 : w.cell? ⟨g, 97, none⟩ = some (.int .u8 (f 97)) := A.cell (by omega)
  have cw : w.cell? ⟨g, 101, none⟩ = some (.int .u8 (f 101)) := A.cell (by omega)
  have cb : w.cell? ⟨g, 102, none⟩ = some (.int .u8 (f 102)) := A.cell (by omega)
  have KP : Hid (∀ w', Below w.heap.size w w' → w'.cell? ⟨g, 100, none⟩ = some (.int .u8 (f 100)) ∧ w'.cell? ⟨g, 101, none⟩ = some (.int .u8 (f 101)) ∧ w'.cell? ⟨g, 103, none⟩ = some (.int .u8 (f 103))) := Lib.hid (fun w' k => ⟨(A.kept k).cell (by omega), (A.kept k).cell (by omega), (A.kept k).cell (by omega)⟩)
  have LN : Hid (∀ w', f 102 = 0 → Calls Try.prog 51 #[.int .u8 0] w' (Says w' (.int .i64 8))) := Lib.hid (fun w' _ => by
    have := rleast_any 0 w' (by omega) (by omega)
    rwa [low_zero] at this)
  have LY : Hid (∀ w', ¬ f 102 = 0 → Calls Try.prog 51 #[.int .u8 (f 102)] w' (Says w' (.int .i64 (lowC (f 102)))) ∧ (lowC (f 102)) < 8) := Lib.hid (fun w' hn => by
    have r := R 102
    exact ⟨rleast_any _ w' r.1 r.2, (low_lt (f 102) (by omega) r.2).1⟩)
  have BT : Hid (∀ w', ¬ f 102 = 0 → Calls Try.prog 45 #[.int .u8 (f 100), .int .i64 (lowC (f 102))] w' (Says w' (.bool (decide (bitN (f 100) (lowC (f 102)) = 1))))) := Lib.hid (fun w' hn => by
    have r := R 102
    have l := low_lt (f 102) (by omega) r.2
    exact bit_any _ _ (by omega) w' (R 100).1 (R 100).2)
  obtain ⟨r0, r0'⟩ := R 96
  obtain ⟨r1, r1'⟩ := R 97
  obtain ⟨rd, rd'⟩ := R 100
  obtain ⟨rw_, rw'⟩ := R 101
  obtain ⟨rb, rb'⟩ := R 102
  obtain ⟨rs, rs'⟩ := R 103
  clear A R
  generalize lowC (f 102) = c at *
  generalize bitN (f 100) c = y at *
  generalize f 96 = x0 at *
  generalize f 97 = x1 at *
  generalize f 100 = xd at *
  generalize f 101 = xw at *
  generalize f 102 = xb at *
  generalize f 103 = xs at *
  unfold CanB at h
  rcases h with ⟨rfl, rfl⟩ | h
  · rcases h2 with h2 | ⟨h2, h5⟩
    all_goals
      try (have q0 : decide (4 ≤ x1) = true := decide_eq_true (by omega))
      try (have q0 : decide (4 ≤ x1) = false := decide_eq_false (by omega))
      try (have q1 : decide (3 < x1) = true := decide_eq_true (by omega))
      try (have q1 : decide (3 < x1) = false := decide_eq_false (by omega))
      try (have q2 : decide (0 < x1) = true := decide_eq_true (by omega))
      try (have q2 : decide (0 < x1) = false := decide_eq_false (by omega))
      try (have q3 : (x0 == 0) = true := by rw [beq_iff_eq]; omega)
      try (have q3 : (x0 == 0) = false := by rw [beq_eq_false_iff_ne]; omega)
      try (have q4 : decide (2 < xw) = true := decide_eq_true (by omega))
      try (have q4 : decide (2 < xw) = false := decide_eq_false (by omega))
      try (have q5 : (xw == 0) = true := by rw [beq_iff_eq]; omega)
      try (have q5 : (xw == 0) = false := by rw [beq_eq_false_iff_ne]; omega)
      try (have q6 : (xw == 2) = true := by rw [beq_iff_eq]; omega)
      try (have q6 : (xw == 2) = false := by rw [beq_eq_false_iff_ne]; omega)
      try (have q7 : decide (10 < xs) = true := decide_eq_true (by omega))
      try (have q7 : decide (10 < xs) = false := decide_eq_false (by omega))
      try (have q8 : decide (4 ≤ xs) = true := decide_eq_true (by omega))
      try (have q8 : decide (4 ≤ xs) = false := decide_eq_false (by omega))
      try (have q9 : decide (3 < xs) = true := decide_eq_true (by omega))
      try (have q9 : decide (3 < xs) = false := decide_eq_false (by omega))
      try (have q10 : decide (xs < 8) = true := decide_eq_true (by omega))
      try (have q10 : decide (xs < 8) = false := decide_eq_false (by omega))
      try (have q11 : decide (8 ≤ xs) = true := decide_eq_true (by omega))
      try (have q11 : decide (8 ≤ xs) = false := decide_eq_false (by omega))
      try (have q12 : decide (xs < 4) = true := decide_eq_true (by omega))
      try (have q12 : decide (xs < 4) = false := decide_eq_false (by omega))
      try (have q13 : (xs == 0) = true := by rw [beq_iff_eq]; omega)
      try (have q13 : (xs == 0) = false := by rw [beq_eq_false_iff_ne]; omega)
      go_enter Try.func33, Try.ntmps33
      try simp only [List.append_eq, List.cons_append, List.nil_append]
      go_wp2_with fail
      refine (LN.out _ (by trivial)).mono ?_
      rintro e w1 ⟨rfl, b1⟩
      obtain ⟨k0, k1, k2⟩ := KP.out w1 b1
      have B1 := Lib.hid b1
      clear b1
      go_wp2_with fail
      first | go_ret | go_ret2
      exact ⟨rfl, B1.out⟩
  · have hn : ¬ xb = 0 := by rcases h with h | h | h | h | h | h <;> exact h.1
    have LZ := Lib.hid (LY.out w hn).1
    have hc8 := (LY.out w hn).2
    have BZ := Lib.hid (fun w' => BT.out w' hn)
    clear BT LY LN
    rcases h2 with h2 | ⟨h2, hx⟩
    all_goals
      rcases h with ⟨_, h5, rfl⟩ | ⟨_, h5, h6, rfl⟩ | ⟨_, h5, h6, rfl⟩ | ⟨_, h5, h6, rfl⟩ | ⟨_, h5, rfl, h6, rfl⟩ | ⟨_, h5, rfl, rfl, rfl⟩
      all_goals
        try rw [decide_eq_true rfl] at BZ
        try rw [decide_eq_false (by assumption)] at BZ
        try (have q0 : decide (4 ≤ x1) = true := decide_eq_true (by omega))
        try (have q0 : decide (4 ≤ x1) = false := decide_eq_false (by omega))
        try (have q1 : decide (3 < x1) = true := decide_eq_true (by omega))
        try (have q1 : decide (3 < x1) = false := decide_eq_false (by omega))
        try (have q2 : decide (0 < x1) = true := decide_eq_true (by omega))
        try (have q2 : decide (0 < x1) = false := decide_eq_false (by omega))
        try (have q3 : (x0 == 0) = true := by rw [beq_iff_eq]; omega)
        try (have q3 : (x0 == 0) = false := by rw [beq_eq_false_iff_ne]; omega)
        try (have q4 : decide (2 < xw) = true := decide_eq_true (by omega))
        try (have q4 : decide (2 < xw) = false := decide_eq_false (by omega))
        try (have q5 : (xw == 0) = true := by rw [beq_iff_eq]; omega)
        try (have q5 : (xw == 0) = false := by rw [beq_eq_false_iff_ne]; omega)
        try (have q6 : (xw == 2) = true := by rw [beq_iff_eq]; omega)
        try (have q6 : (xw == 2) = false := by rw [beq_eq_false_iff_ne]; omega)
        try (have q7 : (xb == 0) = true := by rw [beq_iff_eq]; omega)
        try (have q7 : (xb == 0) = false := by rw [beq_eq_false_iff_ne]; omega)
        try (have q8 : decide (10 < xs) = true := decide_eq_true (by omega))
        try (have q8 : decide (10 < xs) = false := decide_eq_false (by omega))
        try (have q9 : decide (4 ≤ xs) = true := decide_eq_true (by omega))
        try (have q9 : decide (4 ≤ xs) = false := decide_eq_false (by omega))
        try (have q10 : decide (3 < xs) = true := decide_eq_true (by omega))
        try (have q10 : decide (3 < xs) = false := decide_eq_false (by omega))
        try (have q11 : decide (xs < 8) = true := decide_eq_true (by omega))
        try (have q11 : decide (xs < 8) = false := decide_eq_false (by omega))
        try (have q12 : decide (8 ≤ xs) = true := decide_eq_true (by omega))
        try (have q12 : decide (8 ≤ xs) = false := decide_eq_false (by omega))
        try (have q13 : decide (xs < 4) = true := decide_eq_true (by omega))
        try (have q13 : decide (xs < 4) = false := decide_eq_false (by omega))
        try (have q14 : (xs == 0) = true := by rw [beq_iff_eq]; omega)
        try (have q14 : (xs == 0) = false := by rw [beq_eq_false_iff_ne]; omega)
        go_enter Try.func33, Try.ntmps33
        try simp only [List.append_eq, List.cons_append, List.nil_append]
        go_wp2_with fail
        refine LZ.out.mono ?_
        rintro e w1 ⟨rfl, b1⟩
        obtain ⟨k0, k1, k2⟩ := KP.out w1 b1
        have B1 := Lib.hid b1
        clear b1 c0 c1 cw cb
        first
          | (go_wp2_with fail
             first | go_ret | go_ret2
             exact ⟨rfl, B1.out⟩)
          | (go_wp2_with fail
             refine (BZ.out _).mono ?_
             rintro e w2 ⟨rfl, b2⟩
             have B2 := Lib.hid (B1.out.trans (b2.mono B1.out.size))
             clear b2
             go_wp2_with fail
             first | go_ret | go_ret2
             exact ⟨rfl, B2.out⟩)
theorem rcan_any (A : Ra w g f) (R : Rng f) : Calls Try.prog 33 #[at_ g 0] w (Says w (.bool (canD f))) := by
  obtain ⟨b, hb, h | ⟨h1, h2, h3, h4, h⟩⟩ := canP_cases f
  · rw [hb]; exact rcan_a A R b h
  · rw [hb]; exact rcan_b A R b h1 h2 h3 h4 h
end
end Go.Proofs.Ytkeikkkcmackeaa
