/- A clock in memory: who is ahead, who is next, find. -/
import Derived.Test.YtfigepnpegnhkaaClkA
import Derived.ProofKit
import Derived.OpenShut
import Derived.SizedLaws
namespace Go.Proofs.Ytfigepnpegnhkaa
open Go.RowKit
set_option linter.unusedVariables false
set_option linter.unusedSimpArgs false
set_option maxRecDepth 100000
def rowC (S T : Nat → Int) (j : Nat) : Int := if j % 2 = 0 then S (j / 2) else T (j / 2)
theorem rowC_s (S T : Nat → Int) (i : Nat) : rowC S T (i * 2) = S i := by unfold rowC; rw [if_pos (by omega)]; congr 1; omega
theorem rowC_t (S T : Nat → Int) (i : Nat) : rowC S T (i * 2 + 1) = T i := by unfold rowC; rw [if_neg (by omega)]; congr 1; omega
/-- A clock in memory: its slice in block g, its threads in block b. -/
structure Ck (w : World) (g b cap n : Nat) (S T : Nat → Int) : Prop where
  hd : w.cell? ⟨g, 0, none⟩ = some (.slice (some ⟨b, 0, none⟩) n cap)
  ne : g ≠ b
  arr : Arr w .i64 61 b (2 * n) (rowC S T)
section
variable {w w' : World} {g b cap n : Nat} {S T : Nat → Int}
theorem Ck.sc (h : Ck w g b cap n S T) {i : Nat} (hi : i < n) : w.cell? ⟨b, i * 2, none⟩ = some (.int .i64 (S i)) := by rw [h.arr.cell (by omega), rowC_s]
theorem Ck.tm (h : Ck w g b cap n S T) {i : Nat} (hi : i < n) : w.cell? ⟨b, i * 2 + 1, none⟩ = some (.int .i64 (T i)) := by rw [h.arr.cell (by omega), rowC_t]
theorem Ck.fr (h : Ck w g b cap n S T) (j : Nat) : w.frozen? ⟨b, j, none⟩ = false := h.arr.frozen j
theorem Ck.kept (h : Ck w g b cap n S T) (k : Below w.heap.size w w') : Ck w' g b cap n S T := ⟨keepC k h.hd, h.ne, h.arr.kept k⟩
theorem Ck.drew (h : Ck w g b cap n S T) : Ck w.drew g b cap n S T := ⟨h.hd, h.ne, h.arr⟩
theorem Ck.set (h : Ck w g b cap n S T) {i : Nat} (hi : i < n) (x : Int) : Ck (w.setCell ⟨b, i * 2 + 1, none⟩ (.int .i64 x)) g b cap n S (fun k => if k = i then x else T k) := by
  refine ⟨keepSet h.hd h.ne, h.ne, (h.arr.set (i := i * 2 + 1) (by omega) x).congr fun j hj => ?_⟩
  by_cases e : j = i * 2 + 1
  · subst e; rw [if_pos rfl, rowC_t, if_pos rfl]
  · rw [if_neg e]; unfold rowC
    by_cases e2 : j % 2 = 0
    · rw [if_pos e2, if_pos e2]
    · rw [if_neg e2, if_neg e2]; show _ = if j / 2 = i then x else T (j / 2); rw [if_neg (by omega)]
end
/-- Is a ahead of c? -/
def ahd (T : Nat → Int) (a c : Nat) : Prop := T a < T c ∨ (T a = T c ∧ a < c)
instance (T : Nat → Int) (a c : Nat) : Decidable (ahd T a c) := by unfold ahd; infer_instance
def aheadV (T : Nat → Int) (a c : Nat) : Int := if ahd T a c then -1 else if a = c then 0 else 1
section
variable {w : World} {g b cap n : Nat} {S T : Nat → Int}
set_option maxHeartbeats 2000000 in
theorem ahead_any (C : Ck w g b cap n S T) (i j : Nat) (hi : i < n) (hj : j < n) (hn : n ≤ 16) : Calls Try.prog 30 #[.pointer (some ⟨g, 0, none⟩), .int .i64 i, .int .i64 j] w (Says w (.int .i64 (aheadV T i j))) := by
  have h0 := C.hd
  have t0 := C.tm hi
  have t1 := C.tm hj
  have V : ∀ v, aheadV T i j = v → Hid (aheadV T i j = v) := fun v h => h
  have A0 := Lib.hid (show aheadV T i j = if T i < T j ∨ (T i = T j ∧ i < j) then -1 else if i = j then 0 else 1 from rfl)
  have E : Hid (i = j → T i = T j) := fun h => by rw [h]
  obtain ⟨x, hx⟩ : ∃ x, T i = x := ⟨_, rfl⟩
  obtain ⟨y, hy⟩ : ∃ x, T j = x := ⟨_, rfl⟩
  rw [hx] at t0
  rw [hy] at t1
  rw [hx, hy] at A0 E
  clear C hx hy V
  have zi : (0 : Int) ≤ i := by omega
  have zi2 : (i : Int) < n := by omega
  have zj : (0 : Int) ≤ j := by omega
  have zj2 : (j : Int) < n := by omega
  by_cases c1 : x < y
  · have hv : Hid (aheadV T i j = -1) := by rw [A0.out, if_pos (Or.inl c1)]; exact rfl
    rw [hv.out]
    have q1 : decide (x < y) = true := decide_eq_true c1
    clear A0 E hv
    go_enter Try.func30, Try.ntmps30
    go_wp2_with fail
    go_quiet (fail)
    go_wp2_with fail
    go_ret
    exact ⟨rfl, belowN (Below.refl _ _) _⟩
  have q1 : decide (x < y) = false := decide_eq_false c1
  by_cases c2 : x = y
  · subst c2
    by_cases c3 : i < j
    · have hv : Hid (aheadV T i j = -1) := by rw [A0.out, if_pos (Or.inr ⟨rfl, c3⟩)]; exact rfl
      rw [hv.out]
      have q3 : decide ((i : Int) < (j : Int)) = true := decide_eq_true (by omega)
      clear A0 E hv
      go_enter Try.func30, Try.ntmps30
      go_wp2_with fail
      go_quiet (fail)
      go_wp2_with fail
      go_ret
      exact ⟨rfl, belowN (Below.refl _ _) _⟩
  
    have q3 : decide ((i : Int) < (j : Int)) = false := decide_eq_false (by omega)
    by_cases c4 : i = j
    · subst c4
      have hv : Hid (aheadV T i i = 0) := by rw [A0.out, if_neg (by omega), if_pos rfl]; exact rfl
      rw [hv.out]
      clear A0 E hv
      go_enter Try.func30, Try.ntmps30
      go_wp2_with fail
      go_quiet (fail)
      go_wp2_with fail
      go_ret
      exact ⟨rfl, belowN (Below.refl _ _) _⟩
  
    · have hv : Hid (aheadV T i j = 1) := by rw [A0.out, if_neg (by omega), if_neg c4]; exact rfl
      rw [hv.out]
      have q4 : ((i : Int) == (j : Int)) = false := by rw [beq_eq_false_iff_ne]; omega
      clear A0 E hv
      go_enter Try.func30, Try.ntmps30
      go_wp2_with fail
      go_quiet (fail)
      go_wp2_with fail
      go_ret
      exact ⟨rfl, belowN (Below.refl _ _) _⟩
  
  · have q2 : (x == y) = false := by rw [beq_eq_false_iff_ne]; exact c2
    have c4 : ¬ i = j := fun h => c2 (E.out h)
    have q4 : ((i : Int) == (j : Int)) = false := by rw [beq_eq_false_iff_ne]; omega
    have hv : Hid (aheadV T i j = 1) := by rw [A0.out, if_neg (by omega), if_neg c4]; exact rfl
    rw [hv.out]
    clear A0 E hv
    go_enter Try.func30, Try.ntmps30
    go_wp2_with fail
    go_quiet (fail)
    go_wp2_with fail
    go_ret
    exact ⟨rfl, belowN (Below.refl _ _) _⟩
/-- Who is next: the first k that are looked at. -/
def Least (T : Nat → Int) (k x : Nat) : Prop := x < k ∧ ∀ j, j < k → j ≠ x → ahd T x j
theorem ahd_total (T : Nat → Int) {a c : Nat} (h : a ≠ c) : ahd T a c ∨ ahd T c a := by unfold ahd; omega
theorem ahd_asymm (T : Nat → Int) {a c : Nat} (h : ahd T a c) : ¬ ahd T c a := by unfold ahd at *; omega
theorem ahd_trans (T : Nat → Int) {a c d : Nat} (h : ahd T a c) (k : ahd T c d) : ahd T a d := by unfold ahd at *; omega
theorem ahd_irrefl (T : Nat → Int) (a : Nat) : ¬ ahd T a a := by unfold ahd; omega
theorem Least.uniq {T : Nat → Int} {k x y : Nat} (h : Least T k x) (h2 : Least T k y) : x = y := by
  by_cases e : x = y
  · exact e
  · exact absurd (h.2 y h2.1 (Ne.symm e)) (ahd_asymm T (h2.2 x h.1 e))
theorem Least.le {T : Nat → Int} {k x : Nat} (h : Least T k x) {j : Nat} (hj : j < k) : T x ≤ T j := by
  by_cases e : j = x
  · rw [e]; exact Int.le_refl _
  · have := h.2 j hj e; unfold ahd at this; omega
set_option maxHeartbeats 2000000 in
theorem next_any (C : Ck w g b cap n S T) (h1 : 1 ≤ n) (hn : n ≤ 16) : Calls Try.prog 12 #[.pointer (some ⟨g, 0, none⟩)] w (fun e w' => ∃ x : Nat, Least T n x ∧ e = .returned (.int .i64 x) ∧ Below w.heap.size w w') := by
  have h0 := C.hd
  have CK := Lib.hid C
  clear C
  go_enter Try.func12, Try.ntmps12
  go_wp2_with fail
  go_loopw [3, 12] (fun nx i wr => ∃ k x : Nat, k ≤ n ∧ i = .int .i64 k ∧ nx = .int .i64 x ∧ (k = 0 ∧ x = 0 ∨ Least T k x) ∧ Below w.heap.size w wr) (fun _ i _ => n - (intOf i).toNat)
  case atStart => exact ⟨0, 0, by omega, rfl, rfl, Or.inl ⟨rfl, rfl⟩, Below.refl _ _⟩
  case round =>
    obtain ⟨k, x, hk, rfl, rfl, hx, hb⟩ := hrel
    have HX := Lib.hid hx
    have HB := Lib.hid hb
    clear h0
    by_cases hlt : k < n
    · have hki : (k : Int) < n := by omega
      have hxn : x < n := by rcases hx with h | h; omega; have := h.1; omega
      have AH := Lib.hid (ahead_any (CK.out.kept hb) k x hlt hxn hn)
      have V : Hid (aheadV T k x = if ahd T k x then -1 else if k = x then 0 else 1) := Lib.hid rfl
      clear hx hb
      by_cases ha : ahd T k x
      · have hv := V.out
        rw [if_pos ha] at hv
        rw [hv] at AH
        have NX : Hid (Least T (k + 1) k) := Lib.hid (by
          rcases HX.out with h | h
          · refine ⟨by omega, fun j hj hne => absurd hj (by omega)⟩
          · refine ⟨by omega, fun j hj hne => ?_⟩
            by_cases e : j = x
            · rw [e]; exact ha
            · exact ahd_trans T ha (h.2 j (by omega) e))
        clear V hv ha
        go_wp2_with fail
        refine AH.out.mono ?_
        rintro e w1 ⟨rfl, b1⟩
        have HB1 := Lib.hid (HB.out.trans (b1.mono HB.out.size))
        clear b1 AH
        go_wp2_with fail
        go_roundw
        case rel => exact ⟨k + 1, k, by omega, by go_num, rfl, Or.inr NX.out, HB1.out⟩
        case measure => simp [intOf]; omega
      · have hv : ∃ v, aheadV T k x = v ∧ 0 ≤ v := by rw [V.out, if_neg ha]; split <;> exact ⟨_, rfl, by omega⟩
        obtain ⟨v, hv, hv0⟩ := hv
        rw [hv] at AH
        have hvd : decide (v < 0) = false := decide_eq_false (by omega)
        have NX : Hid (Least T (k + 1) x) := Lib.hid (by
          rcases HX.out with ⟨h, h'⟩ | h
          · subst h h'; exact ⟨by omega, fun j hj hne => absurd hj (by omega)⟩
          · have := h.1
            refine ⟨by omega, fun j hj hne => ?_⟩
            by_cases e : j = k
            · rw [e]; exact (ahd_total T (by omega : x ≠ k)).resolve_right ha
            · exact h.2 j (by omega) hne)
        clear V hv ha
        go_wp2_with fail
        refine AH.out.mono ?_
        rintro e w1 ⟨rfl, b1⟩
        have HB1 := Lib.hid (HB.out.trans (b1.mono HB.out.size))
        clear b1 AH
        go_wp2_with fail
        go_roundw
        case rel => exact ⟨k + 1, x, by omega, by go_num, rfl, Or.inr NX.out, HB1.out⟩
        case measure => simp [intOf]; omega
    · have hkn : k = n := by omega
      subst hkn
      clear hx hb
      go_wp2_with fail
      go_ret
      exact ⟨x, HX.out.resolve_left (by omega), rfl, HB.out⟩
theorem len_any (C : Ck w g b cap n S T) : Calls Try.prog 19 #[.pointer (some ⟨g, 0, none⟩)] w (Says w (.int .i64 n)) := by
  have h0 := C.hd
  clear C
  go_enter Try.func19, Try.ntmps19
  go_wp2_with fail
  go_ret
  exact ⟨rfl, Below.refl _ _⟩
theorem find_any (C : Ck w g b cap n S T) (i : Nat) (hi : i < n) (hn : n ≤ 16) : Calls Try.prog 31 #[.pointer (some ⟨g, 0, none⟩), .int .i64 i] w (Says w (.tuple #[.pointer (some ⟨b, i * 2, none⟩), .int .i64 0])) := by
  have h0 := C.hd
  clear C
  have z0 : decide ((i : Int) < 0) = false := decide_eq_false (by omega)
  have z1 : (i : Int) < n := by omega
  have z2 : decide ((n : Int) ≤ i) = false := decide_eq_false (by omega)
  have z3 : (0 : Int) ≤ i := by omega
  go_enter Try.func31, Try.ntmps31
  go_wp2_with fail
  go_ret2
  exact ⟨rfl, Below.refl _ _⟩
/-- What Add says and leaves. -/
theorem add_any (C : Ck w g b cap n S T) (i : Nat) (hi : i < n) (hn : n ≤ 16) (k : Int) (k0 : 0 ≤ k) (k1 : k ≤ 1073741824) (s0 : 1 ≤ S i) (s1 : S i ≤ 16777216) (t0 : 0 ≤ T i) (t1 : T i + S i * k ≤ 1152921504606846976) :
    Calls Try.prog 14 #[.pointer (some ⟨g, 0, none⟩), .int .i64 i, .int .i64 k] w (fun e w' => e = .returned (.int .i64 0) ∧ Ck w' g b cap n S (fun j => if j = i then T i + S i * k else T j) ∧ Upd w b w') := by
  have F := Lib.hid (find_any C i hi hn)
  have CK := Lib.hid C
  clear C
  obtain ⟨s, hs⟩ : ∃ s, S i = s := ⟨_, rfl⟩
  obtain ⟨t, ht⟩ : ∃ s, T i = s := ⟨_, rfl⟩
  rw [hs] at s0 s1 t1
  rw [ht] at t0 t1
  rw [hs, ht]
  have HS := Lib.hid hs
  have HT := Lib.hid ht
  clear hs ht
  obtain ⟨m, hm⟩ : ∃ m, s * k = m := ⟨_, rfl⟩
  have hm0 : 0 ≤ m := by rw [← hm]; exact Int.mul_nonneg (by omega) k0
  rw [hm] at t1
  rw [hm]
  have q0 : decide (k < 0) = false := decide_eq_false (by omega)
  have q1 : decide (1073741824 < k) = false := decide_eq_false (by omega)
  have q1' : decide (k > 1073741824) = false := decide_eq_false (by omega)
  have q2 : decide (1152921504606846976 - t < m) = false := decide_eq_false (by omega)
  have q2' : ¬ (1152921504606846976 - t < m) := by omega
  have wm : IntKind.i64.wrap (s * k) = m := by rw [hm]; rw [IntKind.wrap_i64]; omega
  have ws : IntKind.i64.wrap (1152921504606846976 - t) = 1152921504606846976 - t := by rw [IntKind.wrap_i64]; omega
  have wa : IntKind.i64.wrap (t + m) = t + m := by rw [IntKind.wrap_i64]; omega
  clear hm
  go_enter Try.func14, Try.ntmps14
  go_wp2_with fail
  refine F.out.mono ?_
  rintro e w1 ⟨rfl, b1⟩
  have CK1 := Lib.hid (CK.out.kept b1)
  have x0 := CK1.out.sc hi
  have x1 := CK1.out.tm hi
  rw [HS.out] at x0
  rw [HT.out] at x1
  have U1 := Lib.hid (Upd.ofBelow b1 b)
  clear b1 F CK
  go_wp2_with fail
  go_quiet (fail)
  go_wp2_with fail
  have CK2 := Lib.hid (CK1.out.kept (belowN (Below.refl w1.heap.size w1) nq))
  have U2 := Lib.hid (U1.out.drewN nq)
  obtain ⟨w2, hw2⟩ : ∃ w2, w1.drewN nq = w2 := ⟨_, rfl⟩
  rw [hw2] at CK2 U2
  try rw [hw2]
  clear hw2 CK1 U1
  have x0 := CK2.out.sc hi
  have x1 := CK2.out.tm hi
  have y1 := CK2.out.fr (i * 2 + 1)
  rw [HS.out] at x0
  rw [HT.out] at x1
  go_region_with (fail)
  all_goals
    go_wp2_with fail
    go_ret
    exact ⟨rfl, (CK2.out.set hi (t + m)).drew, (U2.out.set _ _).drew⟩
end
end Go.Proofs.Ytfigepnpegnhkaa
