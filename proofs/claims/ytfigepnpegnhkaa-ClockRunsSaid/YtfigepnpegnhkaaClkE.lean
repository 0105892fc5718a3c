/- slices.insertionSortCmpFunc under a clock's 'ahead' (a bound method). -/
import Derived.Test.YtfigepnpegnhkaaClkD
import Derived.Sort.WalkA
import Derived.Sort.WalkB2
import Derived.Shelf.RegionOpenPlain
namespace Go.Proofs.Ytfigepnpegnhkaa
open Go.RowKit
set_option linter.unusedVariables false
set_option linter.unusedSimpArgs false
set_option maxRecDepth 100000
def swp (d : Nat → Nat) (i j : Nat) : Nat → Nat := fun k => if k = j then d i else if k = i then d j else d k
def tau (i j k : Nat) : Nat := if k = j then i else if k = i then j else k
theorem swp_tau (d : Nat → Nat) (i j k : Nat) : swp d i j k = d (tau i j k) := by
  unfold swp tau
  split
  · rfl
  · split <;> rfl
/-- Places a ≤ k < b permuted. -/
inductive Pm (a b : Nat) (d : Nat → Nat) : (Nat → Nat) → Prop
  | refl : Pm a b d d
  | sw {d' : Nat → Nat} (h : Pm a b d d') {i j : Nat} (hi : a ≤ i) (hi2 : i < b) (hj : a ≤ j) (hj2 : j < b) : Pm a b d (swp d' i j)
theorem Pm.trans {a b : Nat} {d d' d'' : Nat → Nat} (h : Pm a b d d') (k : Pm a b d' d'') : Pm a b d d'' := by
  induction k with
  | refl => exact h
  | sw _ hi hi2 hj hj2 ih => exact ih.sw hi hi2 hj hj2
theorem Pm.wide {a b a2 b2 : Nat} {d d' : Nat → Nat} (h : Pm a b d d') (ha : a2 ≤ a) (hb : b ≤ b2) : Pm a2 b2 d d' := by
  induction h with
  | refl => exact .refl
  | sw _ hi hi2 hj hj2 ih => exact ih.sw (by omega) (by omega) (by omega) (by omega)
theorem Pm.out {a b : Nat} {d d' : Nat → Nat} (h : Pm a b d d') {k : Nat} (hk : k < a ∨ b ≤ k) : d' k = d k := by
  induction h with
  | refl => rfl
  | sw _ hi hi2 hj hj2 ih => unfold swp; rw [if_neg (by omega), if_neg (by omega), ih]
theorem Pm.all {a b : Nat} {d d' : Nat → Nat} (h : Pm a b d d') {P : Nat → Prop} (hp : ∀ k, a ≤ k → k < b → P (d k)) : ∀ k, a ≤ k → k < b → P (d' k) := by
  induction h with
  | refl => exact hp
  | sw _ hi hi2 hj hj2 ih =>
    intro k h1 h2
    unfold swp
    split
    · exact ih _ hi hi2
    · split
      · exact ih _ hj hj2
      · exact ih _ h1 h2
/-- Every thread below n, each at most once. -/
structure Row (n : Nat) (d : Nat → Nat) : Prop where
  lt : ∀ k, k < n → d k < n
  inj : ∀ i j, i < n → j < n → d i = d j → i = j
theorem Row.sw {n : Nat} {d : Nat → Nat} (h : Row n d) {i j : Nat} (hi : i < n) (hj : j < n) : Row n (swp d i j) := by
  constructor
  · intro k hk
    unfold swp
    split
    · exact h.lt _ hi
    · split
      · exact h.lt _ hj
      · exact h.lt _ hk
  · intro p q hp hq e
    rw [swp_tau, swp_tau] at e
    have hp' : tau i j p < n := by unfold tau; split; exact hi; split; exact hj; exact hp
    have hq' : tau i j q < n := by unfold tau; split; exact hi; split; exact hj; exact hq
    have := h.inj _ _ hp' hq' e
    unfold tau at this
    split at this <;> split at this <;> (try split at this) <;> (try split at this) <;> omega
theorem Row.pm {n a b : Nat} {d d' : Nat → Nat} (h : Row n d) (p : Pm a b d d') (hb : b ≤ n) : Row n d' := by
  induction p with
  | refl => exact h
  | sw _ hi hi2 hj hj2 ih => exact ih.sw (by omega) (by omega)
/-- Sorted from a to i. -/
def Sd (T : Nat → Int) (a i : Nat) (d : Nat → Nat) : Prop := ∀ p q, a ≤ p → p < q → q < i → ahd T (d p) (d q)
/-- Sorted from a to i, but for the place j, whose element is less than those behind. -/
def Si (T : Nat → Int) (a i j : Nat) (d : Nat → Nat) : Prop := (∀ p q, a ≤ p → p < q → q ≤ i → p ≠ j → q ≠ j → ahd T (d p) (d q)) ∧ ∀ q, j < q → q ≤ i → ahd T (d j) (d q)
theorem Si.start {T : Nat → Int} {a i : Nat} {d : Nat → Nat} (h : Sd T a i d) : Si T a i i d := ⟨fun p q h1 h2 h3 h4 h5 => h p q h1 h2 (by omega), fun q h1 h2 => by omega⟩
theorem Si.step {T : Nat → Int} {a i j : Nat} {d : Nat → Nat} (h : Si T a i (j + 1) d) (ha : a ≤ j) (hi : j + 1 ≤ i) (hc : ahd T (d (j + 1)) (d j)) : Si T a i j (swp d (j + 1) j) := by
  have e : ∀ k, swp d (j + 1) j k = if k = j then d (j + 1) else if k = j + 1 then d j else d k := fun k => rfl
  constructor
  · intro p q h1 h2 h3 h4 h5
    rw [e, e, if_neg h4, if_neg h5]
    by_cases c1 : p = j + 1
    · rw [if_pos c1, if_neg (by omega)]; exact h.1 j q ha (by omega) h3 (by omega) (by omega)
    · rw [if_neg c1]
      by_cases c2 : q = j + 1
      · rw [if_pos c2]; exact h.1 p j h1 (by omega) (by omega) (by omega) (by omega)
      · rw [if_neg c2]; exact h.1 p q h1 h2 h3 (by omega) (by omega)
  · intro q h1 h2
    rw [e, e, if_pos rfl, if_neg (by omega)]
    by_cases c : q = j + 1
    · rw [if_pos c]; exact hc
    · rw [if_neg c]; exact h.2 q (by omega) h2
theorem Si.stop {T : Nat → Int} {a i j n : Nat} {d : Nat → Nat} (h : Si T a i j d) (ha : a ≤ j) (hi : j ≤ i) (hn : i < n) (R : Row n d) (hc : j = a ∨ ¬ ahd T (d j) (d (j - 1))) : Sd T a (i + 1) d := by
  intro p q h1 h2 h3
  by_cases c1 : p = j
  · rw [c1]; exact h.2 q (by omega) (by omega)
  by_cases c2 : q = j
  · subst c2
    have hne : d (q - 1) ≠ d q := fun e => by have := R.inj _ _ (by omega) (by omega) e; omega
    have hs : ahd T (d (q - 1)) (d q) := (ahd_total T hne).resolve_right (hc.resolve_left (by omega))
    by_cases c3 : p = q - 1
    · rw [c3]; exact hs
    · exact ahd_trans T (h.1 p (q - 1) h1 (by omega) (by omega) c1 (by omega)) hs
  · exact h.1 p q h1 h2 (by omega) c1 c2
/-- The row of threads in block bl. -/
abbrev Ln (w : World) (bl n : Nat) (d : Nat → Nat) : Prop := Arr w .i64 3 bl n (fun k => (d k : Int))
theorem Ln.swap {w : World} {bl n : Nat} {d : Nat → Nat} (h : Ln w bl n d) {i j : Nat} (hi : i < n) (hj : j < n) : Ln ((w.setCell ⟨bl, i, none⟩ (.int .i64 (d j))).setCell ⟨bl, j, none⟩ (.int .i64 (d i))) bl n (swp d i j) := by
  refine ((Arr.set h hi _).set hj _).congr fun k hk => ?_
  unfold swp
  show (if k = j then (d i : Int) else if k = i then (d j : Int) else (d k : Int)) = _
  split
  · rfl
  · split <;> rfl
abbrev cmpV (g : Nat) : Value := .func (.func 30) #[.pointer (some ⟨g, 0, none⟩)] #[]
theorem aheadV_lt (T : Nat → Int) (x y : Nat) : decide (aheadV T x y < 0) = decide (ahd T x y) := by
  unfold aheadV
  by_cases h : ahd T x y
  · rw [if_pos h, decide_eq_true h]; rfl
  · rw [if_neg h, decide_eq_false h]; split <;> rfl
/-- What a sort's part leaves. -/
structure At (w : World) (g b cap n : Nat) (S T : Nat → Int) (bl : Nat) (d : Nat → Nat) : Prop where
  ck : Ck w g b cap n S T
  ln : Ln w bl n d
  row : Row n d
  ng : bl ≠ g
  nb : bl ≠ b
section
variable {w w' : World} {g b cap n bl : Nat} {S T : Nat → Int} {d d' : Nat → Nat}
theorem At.kept (h : At w g b cap n S T bl d) (k : Below w.heap.size w w') : At w' g b cap n S T bl d := ⟨h.ck.kept k, h.ln.kept k, h.row, h.ng, h.nb⟩
theorem Ck.upd (h : Ck w g b cap n S T) (u : Upd w bl w') (ng : bl ≠ g) (nb : bl ≠ b) : Ck w' g b cap n S T := ⟨keepU u h.hd (Ne.symm ng), h.ne, u.arr h.arr (Ne.symm nb)⟩
theorem At.upd (h : At w g b cap n S T bl d) (u : Upd w bl w') (l : Ln w' bl n d') (r : Row n d') : At w' g b cap n S T bl d' := ⟨h.ck.upd u h.ng h.nb, l, r, h.ng, h.nb⟩
theorem At.cmp (h : At w g b cap n S T bl d) (hn : n ≤ 16) {i j : Nat} (hi : i < n) (hj : j < n) (hw : Below w.heap.size w w') : Calls Try.prog 30 #[.pointer (some ⟨g, 0, none⟩), .int .i64 (d i), .int .i64 (d j)] w' (Says w' (.int .i64 (aheadV T (d i) (d j)))) :=
  ahead_any (h.ck.kept hw) _ _ (h.row.lt _ hi) (h.row.lt _ hj) hn
set_option maxHeartbeats 4000000 in
theorem insertion_any (A : At w g b cap n S T bl d) (hn : n ≤ 16) (lo hi c : Nat) (h1 : lo ≤ hi) (h2 : hi ≤ n) :
    Calls Try.prog 43 #[.slice (some ⟨bl, 0, none⟩) n c, .int .i64 lo, .int .i64 hi, cmpV g] w (fun e w' => e = .returned (.tuple #[]) ∧ ∃ d', Pm lo hi d d' ∧ Sd T lo hi d' ∧ At w' g b cap n S T bl d' ∧ Upd w bl w') := by
  have HA := Lib.hid A
  clear A
  go_enter Try.func43, Try.ntmps43
  go_wp2_with fail
  go_loopw [8] (fun x wr => ∃ (i : Nat) (d' : Nat → Nat), x = .int .i64 i ∧ lo + 1 ≤ i ∧ (i ≤ hi ∨ i = lo + 1) ∧ Pm lo hi d d' ∧ Sd T lo i d' ∧ At wr g b cap n S T bl d' ∧ Upd w bl wr) (fun x _ => hi + 1 - (intOf x).toNat)
  case atStart => exact ⟨lo + 1, d, by go_num, by omega, Or.inr rfl, .refl, fun p q _ _ _ => by omega, HA.out, Upd.refl _ _⟩
  case round =>
    obtain ⟨i, d1, rfl, hi1, hi2, pm, sd, at1, u1⟩ := hrel
    have PM := Lib.hid pm
    have SD := Lib.hid sd
    have A1 := Lib.hid at1
    have U1 := Lib.hid u1
    clear pm sd at1 u1
    by_cases hlt : i < hi
    · have hz : (i : Int) < hi := by omega
      have hin : i < n := by omega
      go_wp2_with fail
      go_loopw [9] (fun x wr => ∃ (j : Nat) (d' : Nat → Nat), x = .int .i64 j ∧ lo ≤ j ∧ j ≤ i ∧ Pm lo hi d d' ∧ Si T lo i j d' ∧ At wr g b cap n S T bl d' ∧ Upd w bl wr) (fun x _ => (intOf x).toNat)
      case atStart => exact ⟨i, d1, rfl, by omega, by omega, PM.out, Si.start SD.out, A1.out, U1.out⟩
      case round =>
        obtain ⟨j, d2, rfl, hj1, hj2, pm, si, at2, u2⟩ := hrel
        have PM2 := Lib.hid pm
        have SI := Lib.hid si
        have A2 := Lib.hid at2
        have U2 := Lib.hid u2
        clear pm si at2 u2 PM SD A1 U1
        by_cases hja : lo < j
        · obtain ⟨k, hk⟩ : ∃ k, j = k + 1 := ⟨j - 1, by omega⟩
          subst hk
          have e1 : ((k + 1 : Nat) : Int) - 1 = (k : Int) := by omega
          have w1 : IntKind.i64.wrap (((k + 1 : Nat) : Int) - 1) = (k : Int) := by rw [e1, IntKind.wrap_i64]; omega
          have z1 : ((lo : Nat) : Int) < ((k + 1 : Nat) : Int) := by omega
          have z2 : ((k + 1 : Nat) : Int) < n := by omega
          have z3 : (k : Int) < n := by omega
          have z4 : (0 : Int) ≤ k := by omega
          have z5 : (0 : Int) ≤ ((k + 1 : Nat) : Int) := by omega
          have zd : decide (((k + 1 : Nat) : Int) > lo) = true := decide_eq_true (by omega)
          have x1 : wr.cell? ⟨bl, k + 1, none⟩ = some (.int .i64 (d2 (k + 1))) := A2.out.ln.cell (by omega)
          have x0 : wr.cell? ⟨bl, k, none⟩ = some (.int .i64 (d2 k)) := A2.out.ln.cell (by omega)
          have CM := Lib.hid (fun (w' : World) (hw : Below wr.heap.size wr w') => A2.out.cmp hn (show k + 1 < n by omega) (show k < n by omega) hw)
          by_cases hc : ahd T (d2 (k + 1)) (d2 k)
          · have hv : decide (aheadV T (d2 (k + 1)) (d2 k) < 0) = true := by rw [aheadV_lt]; exact decide_eq_true hc
            have NX := Lib.hid (SI.out.step (by omega) hj2 hc)
            have NP := Lib.hid (PM2.out.sw (i := k + 1) (j := k) (by omega) (by omega) (by omega) (by omega))
            have NR := Lib.hid (A2.out.row.sw (i := k + 1) (j := k) (by omega) (by omega))
            obtain ⟨v, hv'⟩ : ∃ v, aheadV T (d2 (k + 1)) (d2 k) = v := ⟨_, rfl⟩
            rw [hv'] at CM hv
            obtain ⟨j, hj⟩ : ∃ j, k + 1 = j := ⟨_, rfl⟩
            rw [hj] at w1 z1 z2 z5 zd x1 CM NX NP NR hj1 hj2 ⊢
            have HJ := Lib.hid hj
            clear hv' hc hj e1
            have hbl : bl < wr.heap.size := A2.out.ln.lt
            go_wp2_with fail
            refine wp_region_more (by kernel_rfl) (by kernel_rfl) ?_
            repeat (go_big_quiet_step ((go_at_call 30; exact quiet_more ((CM.out _ (below_more _)).mono (fun _ _ h => h)))))
            refine wpQuiet_nil ?_
            rintro _ ⟨nq, rfl⟩
            have A3 := Lib.hid (A2.out.kept (below_more nq))
            have U3 := Lib.hid (U2.out.below (below_more nq))
            generalize moreOf wr nq = w3 at A3 U3 ⊢
            clear CM x1 x0 A2 U2 hbl
            have hbl : bl < w3.heap.size := A3.out.ln.lt
            go_wp2_with fail
            have y1 : w3.cell? ⟨bl, j, none⟩ = some (.int .i64 (d2 j)) := A3.out.ln.cell (by omega)
            have y0 : w3.cell? ⟨bl, k, none⟩ = some (.int .i64 (d2 k)) := A3.out.ln.cell (by omega)
            have g1 := A3.out.ln.frozen j
            have g0 := A3.out.ln.frozen k
            have y0' : (w3.setCell ⟨bl, j, none⟩ (.int .i64 (d2 k))).cell? ⟨bl, k, none⟩ = some (.int .i64 (d2 k)) := keepSetO y0 (by have := HJ.out; omega)
            have SW : Hid (Ln ((w3.setCell ⟨bl, j, none⟩ (.int .i64 (d2 k))).setCell ⟨bl, k, none⟩ (.int .i64 (d2 j))) bl n (swp d2 j k)) := Lib.hid (A3.out.ln.swap (by omega) (by omega))
            have mixed : Try.prog.follows .mixedOrders = true := by kernel_rfl
            go_big_region_o
            have A4 : Hid (At ((w3.setCell ⟨bl, j, none⟩ (.int .i64 (d2 k))).setCell ⟨bl, k, none⟩ (.int .i64 (d2 j))).drew g b cap n S T bl (swp d2 j k)) := Lib.hid (A3.out.upd (((Upd.refl w3 bl).set _ _).set _ _).drew SW.out NR.out)
            have U4 : Hid (Upd w bl ((w3.setCell ⟨bl, j, none⟩ (.int .i64 (d2 k))).setCell ⟨bl, k, none⟩ (.int .i64 (d2 j))).drew) := Lib.hid ((U3.out.set _ _).set _ _).drew
            generalize ((w3.setCell ⟨bl, j, none⟩ (.int .i64 (d2 k))).setCell ⟨bl, k, none⟩ (.int .i64 (d2 j))).drew = w4 at A4 U4 ⊢
            clear y1 y0 g1 g0 y0' SW A3 U3 hbl
            go_wp2_with fail
            go_roundw
            case rel => exact ⟨k, swp d2 j k, by go_num, by omega, by have := HJ.out; omega, NP.out, NX.out, A4.out, U4.out⟩
            case measure => have := HJ.out; simp [intOf]; omega
          · have hv : decide (aheadV T (d2 (k + 1)) (d2 k) < 0) = false := by rw [aheadV_lt]; exact decide_eq_false hc
            have NX := Lib.hid (SI.out.stop (by omega) hj2 hin A2.out.row (Or.inr (by rw [Nat.add_sub_cancel]; exact hc)))
            obtain ⟨v, hv'⟩ : ∃ v, aheadV T (d2 (k + 1)) (d2 k) = v := ⟨_, rfl⟩
            rw [hv'] at CM hv
            obtain ⟨j, hj⟩ : ∃ j, k + 1 = j := ⟨_, rfl⟩
            rw [hj] at w1 z1 z2 z5 zd x1 CM hj1 hj2 ⊢
            have HJ := Lib.hid hj
            clear hv' hc hj e1
            have hbl : bl < wr.heap.size := A2.out.ln.lt
            go_wp2_with fail
            refine wp_region_more (by kernel_rfl) (by kernel_rfl) ?_
            repeat (go_big_quiet_step ((go_at_call 30; exact quiet_more ((CM.out _ (below_more _)).mono (fun _ _ h => h)))))
            refine wpQuiet_nil ?_
            rintro _ ⟨nq, rfl⟩
            have A3 := Lib.hid (A2.out.kept (below_more nq))
            have U3 := Lib.hid (U2.out.below (below_more nq))
            generalize moreOf wr nq = w3 at A3 U3 ⊢
            clear CM x1 x0 A2 U2 hbl
            go_wp2_with fail
            go_roundw
            case rel => exact ⟨i + 1, d2, by go_num, by omega, Or.inl (by omega), PM2.out, NX.out, A3.out, U3.out⟩
            case measure => simp [intOf]; omega
        · have hjl : j = lo := by omega
          subst hjl
          have NX := Lib.hid (SI.out.stop (by omega) hj2 hin A2.out.row (Or.inl rfl))
          have zd : decide ((j : Int) > j) = false := decide_eq_false (by omega)
          have zd2 : ¬ (j : Int) < j := by omega
          go_wp2_with fail
          refine wp_region_more (by kernel_rfl) (by kernel_rfl) ?_
          repeat (go_big_quiet_step (fail))
          refine wpQuiet_nil ?_
          rintro _ ⟨nq, rfl⟩
          have A3 := Lib.hid (A2.out.kept (below_more nq))
          have U3 := Lib.hid (U2.out.below (below_more nq))
          generalize moreOf wr nq = w3 at A3 U3 ⊢
          clear A2 U2
          go_wp2_with fail
          go_roundw
          case rel => exact ⟨i + 1, d2, by go_num, by omega, Or.inl (by omega), PM2.out, NX.out, A3.out, U3.out⟩
          case measure => simp [intOf]; omega
    · have hz : decide ((i : Int) < hi) = false := decide_eq_false (by omega)
      have SE : Hid (Sd T lo hi d1) := Lib.hid (fun p q h1 h2 h3 => SD.out p q h1 h2 (by omega))
      go_wp2_with fail
      go_end0
      exact ⟨rfl, d1, PM.out, SE.out, A1.out, U1.out⟩
end
end Go.Proofs.Ytfigepnpegnhkaa
