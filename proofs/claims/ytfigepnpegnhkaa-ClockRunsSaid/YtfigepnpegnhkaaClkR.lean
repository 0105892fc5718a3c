/- What the methods say of a thread that is not there; New's codes; Scale, At. -/
import Derived.Test.YtfigepnpegnhkaaClkQ
namespace Go.Proofs.Ytfigepnpegnhkaa
open Go Go.RowKit Go.Shelf
attribute [local go_sem] Oper.semAt_some
set_option linter.unusedVariables false
set_option linter.unusedSimpArgs false
set_option maxRecDepth 100000
/-- What New says of scales. -/
def newR (n : Nat) (f : Nat → Int) (c : Int) : Prop :=
  (n = 0 ∧ c = 2) ∨ (16 < n ∧ c = 4) ∨ (1 ≤ n ∧ n ≤ 16 ∧ (∃ j, j < n ∧ f j < 1) ∧ c = 2) ∨ (1 ≤ n ∧ n ≤ 16 ∧ (∀ j, j < n → 1 ≤ f j) ∧ (∃ j, j < n ∧ 16777216 < f j) ∧ c = 4) ∨ (scOk n f ∧ c = 0)
theorem newR_uniq {n : Nat} {f : Nat → Int} {c d : Int} (h : newR n f c) (k : newR n f d) : c = d := by
  unfold newR scOk at *
  rcases h with h | h | ⟨h1, h2, ⟨j, hj, h3⟩, h4⟩ | ⟨h1, h2, h0, ⟨j, hj, h3⟩, h4⟩ | ⟨h1, h4⟩ <;> rcases k with k | k | ⟨k1, k2, ⟨i, hi, k3⟩, k4⟩ | ⟨k1, k2, k0, ⟨i, hi, k3⟩, k4⟩ | ⟨k1, k4⟩ <;> first
    | omega
    | (have := k0 j hj; omega)
    | (have := h0 i hi; omega)
    | (have := k1.2.2 j hj; omega)
    | (have := h1.2.2 i hi; omega)
def NewC (W : World) (n : Nat) (f : Nat → Int) (e : Ending) (w' : World) : Prop :=
  (∃ c : Int, c ≠ 0 ∧ newR n f c ∧ e = .returned (.tuple #[.pointer none, .int .i64 c]) ∧ Below W.heap.size W w') ∨
  (scOk n f ∧ ∃ g b cap, e = .returned (.tuple #[.pointer (some ⟨g, 0, none⟩), .int .i64 0]) ∧ W.heap.size ≤ g ∧ W.heap.size ≤ b ∧ Ck w' g b cap n f (fun _ => 0) ∧ Below W.heap.size W w')
set_option maxHeartbeats 2000000 in
theorem newc_any (v : Value) (n : Nat) (f : Nat → Int) (w : World) (S : Sees w .i64 v n f) : Calls Try.prog 9 #[v] w (NewC w n f) := by
  by_cases hok : scOk n f
  · exact (new_any v n f w S).mono fun e w' h => by
      rcases h with ⟨c, _, h, _⟩ | h
      · exact absurd hok h
      · exact Or.inr h
  cases n with
  | zero =>
    obtain ⟨ao, c, rfl, hs⟩ := S
    clear hs
    go_enter Try.func9, Try.ntmps9
    go_wp2_with fail
    go_ret2
    exact Or.inl ⟨2, by decide, Or.inl ⟨rfl, rfl⟩, rfl, Below.refl _ _⟩
  | succ n =>
    by_cases h : 16 < n + 1
    · obtain ⟨ao, c, rfl, hs⟩ := S
      obtain ⟨m, hm⟩ : ∃ m, n + 1 = m := ⟨_, rfl⟩
      rw [hm] at h ⊢
      have q0 : ((m : Int) == 0) = false := by rw [beq_eq_false_iff_ne]; omega
      have q1 : decide (16 < (m : Int)) = true := decide_eq_true (by omega)
      have HH := Lib.hid h
      clear hs h hok hm
      go_enter Try.func9, Try.ntmps9
      go_wp2_with fail
      go_ret2
      exact Or.inl ⟨4, by decide, Or.inr (Or.inl ⟨HH.out, rfl⟩), rfl, Below.refl _ _⟩
    · have MI := Lib.hid (fun w' S' => min_any v n f w' S' (by omega))
      have MA := Lib.hid (fun w' S' => max_any v n f w' S' (by omega))
      have SS := Lib.hid S
      obtain ⟨ao, c, rfl, hs⟩ := S
      have MN := Lib.hid (And.intro (minF_at f n) (minF_le f n))
      have MX := Lib.hid (And.intro (maxF_at f n) (le_maxF f n))
      obtain ⟨x, hx⟩ : ∃ x, minF f n = x := ⟨_, rfl⟩
      obtain ⟨y, hy⟩ : ∃ y, maxF f n = y := ⟨_, rfl⟩
      rw [hx] at MI MN
      rw [hy] at MA MX
      obtain ⟨m, hm⟩ : ∃ m, m = n + 1 := ⟨_, rfl⟩
      have HM := Lib.hid hm
      rw [← hm] at MI MA SS hok h ⊢
      have q0 : ((m : Int) == 0) = false := by rw [beq_eq_false_iff_ne]; omega
      have q1 : decide (16 < (m : Int)) = false := decide_eq_false (by omega)
      have HOK := Lib.hid hok
      have hm1 : 1 ≤ m := by omega
      clear hs hx hy hm hok
      by_cases c1 : x < 1
      · have q2 : decide (x < 1) = true := decide_eq_true c1
        have R2 : Hid (newR m f 2) := Lib.hid (by
          obtain ⟨j, hj, e⟩ := MN.out.1
          have := HM.out
          exact Or.inr (Or.inr (Or.inl ⟨hm1, by omega, ⟨j, by omega, by omega⟩, rfl⟩)))
        go_enter Try.func9, Try.ntmps9
        go_wp2_with fail
        refine (MI.out _ SS.out).mono ?_
        rintro e w1 ⟨rfl, b1⟩
        have B1 := Lib.hid b1
        clear b1
        go_wp2_with fail
        go_ret2
        exact Or.inl ⟨2, by decide, R2.out, rfl, B1.out⟩
      · have c2 : 16777216 < y := by
          by_cases c2 : 16777216 < y
          · exact c2
          · refine absurd ⟨hm1, by omega, fun j hj => ?_⟩ HOK.out
            have := HM.out
            have a := MN.out.2 j (by omega)
            have b := MX.out.2 j (by omega)
            omega
        have q2 : decide (x < 1) = false := decide_eq_false c1
        have q3 : decide (16777216 < y) = true := decide_eq_true c2
        have R4 : Hid (newR m f 4) := Lib.hid (by
          obtain ⟨j, hj, e⟩ := MX.out.1
          have := HM.out
          exact Or.inr (Or.inr (Or.inr (Or.inl ⟨hm1, by omega, fun i hi => by have := MN.out.2 i (by omega); omega, ⟨j, by omega, by omega⟩, rfl⟩))))
        go_enter Try.func9, Try.ntmps9
        go_wp2_with fail
        refine (MI.out _ SS.out).mono ?_
        rintro e w1 ⟨rfl, b1⟩
        have B1 := Lib.hid b1
        have S1 := Lib.hid (SS.out.kept b1)
        clear b1
        go_wp2_with fail
        refine (MA.out _ S1.out).mono ?_
        rintro e w2 ⟨rfl, b2⟩
        have B2 := Lib.hid (B1.out.trans (b2.mono B1.out.size))
        clear b2
        go_wp2_with fail
        go_ret2
        exact Or.inl ⟨4, by decide, R4.out, rfl, B2.out⟩
section
variable {w : World} {g b cap n : Nat} {S T : Nat → Int}
theorem find_bad (C : Ck w g b cap n S T) (i : Int) (hi : i < 0 ∨ n ≤ i) (hn : n ≤ 16) : Calls Try.prog 31 #[.pointer (some ⟨g, 0, none⟩), .int .i64 i] w (Says w (.tuple #[.pointer none, .int .i64 3])) := by
  have h0 := C.hd
  clear C
  by_cases h : i < 0
  · have z0 : decide (i < 0) = true := decide_eq_true h
    go_enter Try.func31, Try.ntmps31
    go_wp2_with fail
    go_ret2
    exact ⟨rfl, Below.refl _ _⟩
  · have z0 : decide (i < 0) = false := decide_eq_false h
    have z1 : (n : Int) ≤ i := hi.resolve_left h
    have z2 : decide ((n : Int) ≤ i) = true := decide_eq_true z1
    clear hi
    go_enter Try.func31, Try.ntmps31
    go_wp2_with fail
    go_ret2
    exact ⟨rfl, Below.refl _ _⟩
theorem scale_bad (C : Ck w g b cap n S T) (i : Int) (hi : i < 0 ∨ n ≤ i) (hn : n ≤ 16) : Calls Try.prog 16 #[.pointer (some ⟨g, 0, none⟩), .int .i64 i] w (Says w (.tuple #[.int .i64 0, .int .i64 3])) := by
  have F := Lib.hid (find_bad C i hi hn)
  clear C hi
  go_enter Try.func16, Try.ntmps16
  go_wp2_with fail
  refine F.out.mono ?_
  rintro e w1 ⟨rfl, b1⟩
  go_wp2_with fail
  go_ret2
  exact ⟨rfl, b1⟩
theorem at_bad (C : Ck w g b cap n S T) (i : Int) (hi : i < 0 ∨ n ≤ i) (hn : n ≤ 16) : Calls Try.prog 17 #[.pointer (some ⟨g, 0, none⟩), .int .i64 i] w (Says w (.tuple #[.int .i64 0, .int .i64 3])) := by
  have F := Lib.hid (find_bad C i hi hn)
  clear C hi
  go_enter Try.func17, Try.ntmps17
  go_wp2_with fail
  refine F.out.mono ?_
  rintro e w1 ⟨rfl, b1⟩
  go_wp2_with fail
  go_ret2
  exact ⟨rfl, b1⟩
theorem add_bad (C : Ck w g b cap n S T) (i k : Int) (hi : i < 0 ∨ n ≤ i) (hn : n ≤ 16) : Calls Try.prog 14 #[.pointer (some ⟨g, 0, none⟩), .int .i64 i, .int .i64 k] w (Says w (.int .i64 3)) := by
  have F := Lib.hid (find_bad C i hi hn)
  clear C hi
  go_enter Try.func14, Try.ntmps14
  go_wp2_with fail
  refine F.out.mono ?_
  rintro e w1 ⟨rfl, b1⟩
  go_wp2_with fail
  go_ret
  exact ⟨rfl, b1⟩
theorem add_arg (C : Ck w g b cap n S T) (i : Nat) (hi : i < n) (hn : n ≤ 16) (k : Int) (hk : k < 0 ∨ 1073741824 < k) : Calls Try.prog 14 #[.pointer (some ⟨g, 0, none⟩), .int .i64 i, .int .i64 k] w (Says w (.int .i64 2)) := by
  have F := Lib.hid (find_any C i hi hn)
  clear C
  by_cases h : k < 0
  · have z0 : decide (k < 0) = true := decide_eq_true h
    clear hk
    go_enter Try.func14, Try.ntmps14
    go_wp2_with fail
    refine F.out.mono ?_
    rintro e w1 ⟨rfl, b1⟩
    go_wp2_with fail
    go_ret
    exact ⟨rfl, b1⟩
  · have z0 : decide (k < 0) = false := decide_eq_false h
    have z1 : decide (1073741824 < k) = true := decide_eq_true (hk.resolve_left h)
    clear hk
    go_enter Try.func14, Try.ntmps14
    go_wp2_with fail
    refine F.out.mono ?_
    rintro e w1 ⟨rfl, b1⟩
    go_wp2_with fail
    go_ret
    exact ⟨rfl, b1⟩
theorem scale_any (C : Ck w g b cap n S T) (i : Nat) (hi : i < n) (hn : n ≤ 16) : Calls Try.prog 16 #[.pointer (some ⟨g, 0, none⟩), .int .i64 i] w (Says w (.tuple #[.int .i64 (S i), .int .i64 0])) := by
  have F := Lib.hid (find_any C i hi hn)
  have CK := Lib.hid C
  clear C
  go_enter Try.func16, Try.ntmps16
  go_wp2_with fail
  refine F.out.mono ?_
  rintro e w1 ⟨rfl, b1⟩
  have x0 := (CK.out.kept b1).sc hi
  have B1 := Lib.hid b1
  clear b1
  go_wp2_with fail
  go_ret2
  exact ⟨rfl, B1.out⟩
theorem at_any (C : Ck w g b cap n S T) (i : Nat) (hi : i < n) (hn : n ≤ 16) : Calls Try.prog 17 #[.pointer (some ⟨g, 0, none⟩), .int .i64 i] w (Says w (.tuple #[.int .i64 (T i), .int .i64 0])) := by
  have F := Lib.hid (find_any C i hi hn)
  have CK := Lib.hid C
  clear C
  go_enter Try.func17, Try.ntmps17
  go_wp2_with fail
  refine F.out.mono ?_
  rintro e w1 ⟨rfl, b1⟩
  have x0 := (CK.out.kept b1).tm hi
  have B1 := Lib.hid b1
  clear b1
  go_wp2_with fail
  go_ret2
  exact ⟨rfl, B1.out⟩
set_option maxHeartbeats 2000000 in
theorem room_bad (C : Ck w g b cap n S T) (i : Int) (hi : i < 0 ∨ n ≤ i) (hn : n ≤ 16) : Calls Try.prog 13 #[.pointer (some ⟨g, 0, none⟩), .int .i64 i] w (Says w (.tuple #[.int .i64 0, .int .i64 3])) := by
  have CK := Lib.hid C
  have HI := Lib.hid hi
  clear C hi
  go_enter Try.func13, Try.ntmps13
  go_upto_region 1 with (fail)
  obtain ⟨W1, hW⟩ : ∃ W1, W1 = (((w.alloc (.cells #[.pointer (some ⟨g, 0, none⟩)] 24)).alloc (.cells #[.int .i64 i] 3)).alloc (.cells #[.int .i64 0] 3)).alloc (.cells #[.int .i64 0] 25) := ⟨_, rfl⟩
  obtain ⟨B, hB⟩ : ∃ B, B = w.heap.size := ⟨_, rfl⟩
  rw [← hW, ← hB]
  obtain ⟨B1, hB1⟩ : ∃ x, x = B + 1 := ⟨_, rfl⟩
  rw [← hB1]
  obtain ⟨B2, hB2⟩ : ∃ x, x = B1 + 1 := ⟨_, rfl⟩
  rw [← hB2]
  obtain ⟨B3, hB3⟩ : ∃ x, x = B2 + 1 := ⟨_, rfl⟩
  rw [← hB3]
  have x0 : W1.cell? ⟨B, 0, none⟩ = some (.pointer (some ⟨g, 0, none⟩)) := by rw [hW, hB]; simp [go_sem]
  have x1 : W1.cell? ⟨B1, 0, none⟩ = some (.int .i64 i) := by rw [hW, hB1, hB]; simp [go_sem]
  have x2 : W1.cell? ⟨B2, 0, none⟩ = some (.int .i64 0) := by rw [hW, hB2, hB1, hB]; simp [go_sem]
  have x3 : W1.cell? ⟨B3, 0, none⟩ = some (.int .i64 0) := by rw [hW, hB3, hB2, hB1, hB]; simp [go_sem]
  have y2 : W1.frozen? ⟨B2, 0, none⟩ = false := by rw [hW, hB2, hB1, hB]; simp [go_sem]
  have y3 : W1.frozen? ⟨B3, 0, none⟩ = false := by rw [hW, hB3, hB2, hB1, hB]; simp [go_sem]
  have HBW : Hid (Below w.heap.size w W1) := by rw [hW]; exact belowA (belowA (belowA (belowA (Below.refl _ _) _) _) _) _
  have HB1 : Hid (Below w.heap.size w W1) := by rw [hW]; exact belowA (belowA (belowA (belowA (Below.refl _ _) _) _) _) _
  have hsz : W1.heap.size = B3 + 1 := by rw [hW, hB3, hB2, hB1, hB]; simp
  have hn : B2 ≠ B3 := by omega
  have h2 : w.heap.size ≤ B2 := by omega
  have h3 : w.heap.size ≤ B3 := by omega
  have HN := Lib.hid hn
  have HB2 := Lib.hid h2
  have HB3 := Lib.hid h3
  clear hW hB hB1 hB2 hn h2 h3
  go_wp2_with fail
  refine (find_bad (CK.out.kept HBW.out) i HI.out hn).mono ?_
  rintro e w1 ⟨rfl, b1⟩
  have z2 := keepC b1 x2
  have z3 := keepC b1 x3
  have q2 := World.block_lt_of_cell? _ _ z2
  have q3 := World.block_lt_of_cell? _ _ z3
  have u2 : w1.frozen? ⟨B2, 0, none⟩ = false := (b1.frozen (p := ⟨B2, 0, none⟩) (by show B2 < W1.heap.size; omega)).trans y2
  have u3 : w1.frozen? ⟨B3, 0, none⟩ = false := (b1.frozen (p := ⟨B3, 0, none⟩) (by show B3 < W1.heap.size; omega)).trans y3
  have HW1 := Lib.hid (HB1.out.trans (b1.mono HB1.out.size))
  simp only at q2 q3
  have r3 : (w1.setCell ⟨B2, 0, none⟩ (.int .i64 0)).cell? ⟨B3, 0, none⟩ = some (.int .i64 0) := keepSet z3 (Ne.symm HN.out)
  have r2 : (w1.setCell ⟨B2, 0, none⟩ (.int .i64 0)).cell? ⟨B2, 0, none⟩ = some (.int .i64 0) := World.cell?_setCell_same' _ _ _ (by rw [z2]; rfl)
  have s2 : ((w1.setCell ⟨B2, 0, none⟩ (.int .i64 0)).setCell ⟨B3, 0, none⟩ (.int .i64 3)).cell? ⟨B2, 0, none⟩ = some (.int .i64 0) := keepSet r2 HN.out
  have s3 : ((w1.setCell ⟨B2, 0, none⟩ (.int .i64 0)).setCell ⟨B3, 0, none⟩ (.int .i64 3)).cell? ⟨B3, 0, none⟩ = some (.int .i64 3) := World.cell?_setCell_same' _ _ _ (by rw [r3]; rfl)
  clear b1 x0 x1 x2 x3 y2 y3 hsz hB3
  go_wp2_with fail
  exact bodyPost_ret (v := .tuple #[.int .i64 0, .int .i64 3]) (by simp [results, Try.results13, go_sem, q2, q3, s2, s3]) rfl ⟨rfl, by repeat (first | exact HW1.out | (refine belowA ?_ _) | (refine belowS ?_ HB2.out _) | (refine belowS ?_ HB3.out _))⟩
end
end Go.Proofs.Ytfigepnpegnhkaa
