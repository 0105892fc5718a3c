/- pdqsort of at most 16 threads. -/
import Derived.Test.YtfigepnpegnhkaaClkH
namespace Go.Proofs.Ytfigepnpegnhkaa
open Go.RowKit
set_option linter.unusedVariables false
set_option linter.unusedSimpArgs false
set_option maxRecDepth 100000
/-- All pairs are in order but those within a..b. -/
def Qd (T : Nat → Int) (n a b : Nat) (d : Nat → Nat) : Prop := ∀ p q, p < q → q < n → (p < a ∨ b ≤ q) → ahd T (d p) (d q)
theorem Qd.start (T : Nat → Int) (n : Nat) (d : Nat → Nat) : Qd T n 0 n d := fun p q h1 h2 h3 => by omega
theorem Qd.pm {T : Nat → Int} {n a b : Nat} {d d' : Nat → Nat} (h : Qd T n a b d) (p : Pm a b d d') (hb : b ≤ n) : Qd T n a b d' := by
  intro x y h1 h2 h3
  by_cases cx : a ≤ x ∧ x < b
  · have hy : b ≤ y := by omega
    rw [p.out (Or.inr hy)]
    exact p.all (P := fun v => ahd T v (d y)) (fun k k1 k2 => h k y (by omega) h2 (Or.inr hy)) x cx.1 cx.2
  · by_cases cy : a ≤ y ∧ y < b
    · have hx : x < a := by omega
      rw [p.out (k := x) (Or.inl hx)]
      exact p.all (P := fun v => ahd T (d x) v) (fun k k1 k2 => h x k (by omega) (by omega) (Or.inl hx)) y cy.1 cy.2
    · rw [p.out (k := x) (by omega), p.out (k := y) (by omega)]
      exact h x y h1 h2 h3
theorem Qd.done {T : Nat → Int} {n a b : Nat} {d : Nat → Nat} (h : Qd T n a b d) (s : Sd T a b d) : Sd T 0 n d := by
  intro p q h0 h1 h2
  by_cases c : p < a ∨ b ≤ q
  · exact h p q h1 h2 c
  · exact s p q (by omega) h1 (by omega)
theorem Pd.pmL {T : Nat → Int} {a b m : Nat} {d d' : Nat → Nat} (h : Pd T a b m d) (p : Pm a m d d') : Pd T a b m d' := by
  refine ⟨h.1, h.2.1, fun k h1 h2 => ?_, fun k h1 h2 => ?_⟩
  · rw [p.out (k := m) (by omega)]
    exact p.all (P := fun v => ahd T v (d m)) h.2.2.1 k h1 h2
  · rw [p.out (k := m) (by omega), p.out (k := k) (by omega)]; exact h.2.2.2 k h1 h2
theorem Pd.pmR {T : Nat → Int} {a b m : Nat} {d d' : Nat → Nat} (h : Pd T a b m d) (p : Pm (m + 1) b d d') : Pd T a b m d' := by
  refine ⟨h.1, h.2.1, fun k h1 h2 => ?_, fun k h1 h2 => ?_⟩
  · rw [p.out (k := m) (by omega), p.out (k := k) (by omega)]; exact h.2.2.1 k h1 h2
  · rw [p.out (k := m) (by omega)]
    exact p.all (P := fun v => ahd T (d m) v) (fun k k1 k2 => h.2.2.2 k (by omega) k2) k (by omega) h2
theorem Qd.left {T : Nat → Int} {n a b m : Nat} {d : Nat → Nat} (h : Qd T n a b d) (p : Pd T a b m d) (s : Sd T a m d) : Qd T n (m + 1) b d := by
  intro x y h1 h2 h3
  by_cases c : x < a ∨ b ≤ y
  · exact h x y h1 h2 c
  · by_cases c1 : x = m
    · rw [c1]; exact p.2.2.2 y (by omega) (by omega)
    · by_cases c2 : y < m
      · exact s x y (by omega) h1 c2
      · by_cases c3 : y = m
        · rw [c3]; exact p.2.2.1 x (by omega) (by omega)
        · exact ahd_trans T (p.2.2.1 x (by omega) (by omega)) (p.2.2.2 y (by omega) (by omega))
theorem Qd.right {T : Nat → Int} {n a b m : Nat} {d : Nat → Nat} (h : Qd T n a b d) (p : Pd T a b m d) (s : Sd T (m + 1) b d) : Qd T n a m d := by
  intro x y h1 h2 h3
  by_cases c : x < a ∨ b ≤ y
  · exact h x y h1 h2 c
  · by_cases c1 : y = m
    · rw [c1]; exact p.2.2.1 x (by omega) (by omega)
    · by_cases c2 : m < x
      · exact s x y (by omega) h1 (by omega)
      · by_cases c3 : x = m
        · rw [c3]; exact p.2.2.2 y (by omega) (by omega)
        · exact ahd_trans T (p.2.2.1 x (by omega) (by omega)) (p.2.2.2 y (by omega) (by omega))
/-- What a sort leaves. -/
def SrtP (W : World) (g b cap n : Nat) (S T : Nat → Int) (bl : Nat) (d : Nat → Nat) (lo hi : Nat) (e : Ending) (w' : World) : Prop :=
  e = .returned (.tuple #[]) ∧ ∃ d', Pm lo hi d d' ∧ Sd T lo hi d' ∧ At w' g b cap n S T bl d' ∧ Upd W bl w'
section
variable {w w' : World} {g b cap n bl sb : Nat} {S T : Nat → Int} {d d' : Nat → Nat}
set_option maxHeartbeats 4000000 in
theorem pdq_small (A : At w g b cap n S T bl d) (hn : n ≤ 16) (lo hi c : Nat) (lim : Int) (h1 : lo ≤ hi) (h2 : hi ≤ n) (h3 : hi ≤ lo + 12) :
    Calls Try.prog 41 #[.slice (some ⟨bl, 0, none⟩) n c, .int .i64 lo, .int .i64 hi, .int .i64 lim, cmpV g] w (SrtP w g b cap n S T bl d lo hi) := by
  have IN := Lib.hid (insertion_any A hn lo hi c h1 h2)
  have z : (hi : Int) - lo ≤ 12 := by omega
  have zd : decide ((hi : Int) - lo ≤ 12) = true := decide_eq_true z
  clear A
  go_enter Try.func41, Try.ntmps41
  try simp only [List.append_eq, List.cons_append, List.nil_append]
  go_wp2_with fail
  refine wp_loop_rounds 1 ?_
  rw [rounds_succ]
  go_wp2_with fail
  refine IN.out.mono ?_
  rintro e w1 ⟨rfl, d', pm, sd, a, u⟩
  have P := Lib.hid (And.intro pm (And.intro sd (And.intro a u)))
  clear pm sd a u
  go_wp2_with fail
  first | go_end0 | (refine bodyPost_ret (results_none rfl _ _ _) rfl ?_)
  exact ⟨rfl, d', P.out.1, P.out.2.1, P.out.2.2.1, P.out.2.2.2⟩
/-- How the great loop stands. -/
structure PQ (w0 : World) (g b cap n : Nat) (S T : Nat → Int) (bl : Nat) (d : Nat → Nat) (lo hi lim : Nat) (d' : Nat → Nat) (w : World) : Prop where
  rng : lo ≤ hi ∧ hi ≤ n ∧ hi ≤ lo + lim + 11 ∧ lim ≤ 64
  pm : Pm 0 n d d'
  qd : Qd T n lo hi d'
  at_ : At w g b cap n S T bl d'
  up_ : Upd w0 bl w
theorem PQ.step {w0 w w' : World} {lo hi lim lim' : Nat} {d0 : Nat → Nat} (h : PQ w0 g b cap n S T bl d0 lo hi lim d w) (p : Pm lo hi d d') (a : At w' g b cap n S T bl d') (u : Upd w bl w') (hl : hi ≤ lo + lim' + 11 ∧ lim' ≤ 64) : PQ w0 g b cap n S T bl d0 lo hi lim' d' w' :=
  ⟨⟨h.rng.1, h.rng.2.1, hl.1, hl.2⟩, h.pm.trans (p.wide (by omega) h.rng.2.1), h.qd.pm p h.rng.2.1, a, h.up_.trans u⟩
set_option maxHeartbeats 8000000 in
theorem pdq_any (A : At w g b cap n S T bl d) (hn : n ≤ 16) (c lim : Nat) (hl : n ≤ lim + 11) (hl2 : lim ≤ 64) :
    Calls Try.prog 41 #[.slice (some ⟨bl, 0, none⟩) n c, .int .i64 0, .int .i64 n, .int .i64 lim, cmpV g] w (SrtP w g b cap n S T bl d 0 n) := by
  have HA := Lib.hid A
  clear A
  go_enter Try.func41, Try.ntmps41
  try simp only [List.append_eq, List.cons_append, List.nil_append]
  go_wp2_with fail
  go_loopw [1, 2, 3, 10, 11] (fun x y z wb wp wr => ∃ (lo hi lim : Nat) (p q : Bool) (d' : Nat → Nat), x = .int .i64 lo ∧ y = .int .i64 hi ∧ z = .int .i64 lim ∧ wb = .bool p ∧ wp = .bool q ∧ PQ w g b cap n S T bl d lo hi lim d' wr) (fun x y _ _ _ _ => (intOf y - intOf x).toNat)
  case atStart => exact ⟨0, n, lim, true, true, d, rfl, rfl, rfl, rfl, rfl, ⟨⟨by omega, by omega, by omega, by omega⟩, .refl, Qd.start _ _ _, HA.out, Upd.refl _ _⟩⟩
  case round =>
    obtain ⟨lo, hi, lim, p, q, d1, rfl, rfl, rfl, rfl, rfl, pq⟩ := hrel
    have P1 := Lib.hid pq
    clear pq HA hl hl2
    have hr := P1.out.rng
    have hb1 : lo ≤ hi := hr.1
    have hb2 : hi ≤ 16 := by omega
    by_cases h12 : hi ≤ lo + 12
    · have IN := Lib.hid (insertion_any P1.out.at_ hn lo hi c hr.1 hr.2.1)
      have z : (hi : Int) - lo ≤ 12 := by omega
      have zd : decide ((hi : Int) - lo ≤ 12) = true := decide_eq_true z
      clear hr h12
      go_wp2_with fail
      refine IN.out.mono ?_
      rintro e w1 ⟨rfl, d2, pm, sd, a, u⟩
      have P := Lib.hid (And.intro pm (And.intro sd (And.intro a u)))
      clear pm sd a u IN
      go_wp2_with fail
      first | go_end0 | (refine bodyPost_ret (results_none rfl _ _ _) rfl ?_)
      exact ⟨rfl, d2, P1.out.pm.trans (P.out.1.wide (by omega) P1.out.rng.2.1), (P1.out.qd.pm P.out.1 P1.out.rng.2.1).done P.out.2.1, P.out.2.2.1, P1.out.up_.trans P.out.2.2.2⟩
    · obtain ⟨L, hL⟩ : ∃ L : Nat, hi - lo = L := ⟨_, rfl⟩
      have eL : (hi : Int) - lo = L := by omega
      have hL1 : 13 ≤ L := by omega
      have hL2 : L ≤ 16 := by omega
      have z : ¬ (L : Int) ≤ 12 := by omega
      have zd : decide ((L : Int) ≤ 12) = false := decide_eq_false z
      have zl : ((lim : Int) == 0) = false := by rw [beq_eq_false_iff_ne]; omega
      have HH := Lib.hid (show lo + L = hi ∧ hi ≤ n ∧ L ≤ lim + 11 ∧ lim ≤ 64 ∧ 2 ≤ lim by omega)
      clear hr h12 hL
      go_upto_if 39 with fail
      go_cut [3] from 40 to 46 (fun z wx => ∃ (lim' : Nat) (d2 : Nat → Nat), z = .int .i64 lim' ∧ L ≤ lim' + 12 ∧ lim' ≤ 64 ∧ Pm lo hi d1 d2 ∧ At wx g b cap n S T bl d2 ∧ Upd wr bl wx)
      case first =>
        cases p
        · have BR := Lib.hid (break_any P1.out.at_ hn lo hi c (by have := HH.out; omega) (by have := HH.out; omega))
          have el : (lim : Int) - 1 = ((lim - 1 : Nat) : Int) := by have := HH.out; omega
          obtain ⟨l1, hl1⟩ : ∃ l1, lim - 1 = l1 := ⟨_, rfl⟩
          rw [hl1] at el
          have hl1' : L ≤ l1 + 12 ∧ l1 ≤ 64 := by have := HH.out; omega
          have HL1 := Lib.hid hl1'
          have hl1b : l1 ≤ 64 := hl1'.2
          clear hl1 hl1'
          go_wp2_with fail
          refine BR.out.mono ?_
          rintro e w1 ⟨rfl, d2, pm, a, u⟩
          have P := Lib.hid (And.intro pm (And.intro a u))
          clear pm a u BR
          go_wp2_with fail
          go_meet
          exact ⟨l1, d2, rfl, HL1.out.1, HL1.out.2, P.out.1, P.out.2.1, P.out.2.2⟩
        · go_wp2_with fail
          go_meet
          have := HH.out
          exact ⟨lim, d1, rfl, by omega, by omega, .refl, P1.out.at_, Upd.refl _ _⟩
      case rest =>
        obtain ⟨lim', d2, rfl, hl1, hl2, pm, a, u⟩ := hcut
        have PM2 := Lib.hid pm
        have A2 := Lib.hid a
        have U2 := Lib.hid u
        have HL := Lib.hid (And.intro hl1 hl2)
        have PV := Lib.hid (pivot_any a hn lo hi c (by have := HH.out; omega) (by have := HH.out; omega))
        clear pm a u hl1 hl2 zl
        go_wp2_with fail
        refine PV.out.mono ?_
        rintro e w1 ⟨pv, h, rfl, hp1, hp2, hh, a, b1⟩
        have A3 := Lib.hid a
        have U3 := Lib.hid (U2.out.below b1)
        have RV := Lib.hid (reverse_any a hn lo hi c (by have := HH.out; omega) (by have := HH.out; omega))
        have HP := Lib.hid (And.intro hp1 hp2)
        clear a b1 A2 U2 PV hp1 hp2
        go_upto_if 56 with fail
        go_cut [13, 14] from 57 to 67 (fun x y wx => ∃ (p' : Nat) (h' : Int) (d3 : Nat → Nat), x = .int .i64 p' ∧ y = .int .i64 h' ∧ lo ≤ p' ∧ p' < hi ∧ Pm lo hi d1 d3 ∧ At wx g b cap n S T bl d3 ∧ Upd wr bl wx)
        case first =>
          have hpv := HP.out
          by_cases h2 : h = 2
          · subst h2
            obtain ⟨p2, hp2⟩ : ∃ p2, hi - 1 - (pv - lo) = p2 := ⟨_, rfl⟩
            have ep : (hi : Int) - 1 - ((pv : Int) - lo) = p2 := by omega
            have hp16 : pv ≤ 16 := by omega
            have HP2 := Lib.hid (show lo ≤ p2 ∧ p2 < hi by omega)
            clear hp2
            go_wp2_with fail
            refine RV.out.mono ?_
            rintro e w1 ⟨rfl, d3, pm, a, u⟩
            have P := Lib.hid (And.intro pm (And.intro a u))
            clear pm a u RV
            go_wp2_with fail
            go_meet
            exact ⟨p2, 1, d3, by first | rfl | (congr 1), rfl, HP2.out.1, HP2.out.2, PM2.out.trans P.out.1, P.out.2.1, U3.out.trans P.out.2.2⟩
          · have hz : (h == 2) = false := by rw [beq_eq_false_iff_ne]; exact h2
            go_wp2_with fail
            go_meet
            exact ⟨pv, h, d2, rfl, rfl, hpv.1, hpv.2, PM2.out, A3.out, U3.out⟩
        case rest =>
          obtain ⟨p', h', d3, rfl, rfl, hp1, hp2, pm, a, u⟩ := hcut
          have PM3 := Lib.hid pm
          have A4 := Lib.hid a
          have U4 := Lib.hid u
          have HP3 := Lib.hid (And.intro hp1 hp2)
          have PI := Lib.hid (partial_any a hn lo hi c (by have := HH.out; omega) (by have := HH.out; omega))
          have FIN : Hid (∀ w5, Below wc.heap.size wc w5 → At w5 g b cap n S T bl d3 → Sd T lo hi d3 → SrtP w g b cap n S T bl d 0 n (.returned (.tuple #[])) w5) := Lib.hid (fun w5 bb aa sd => ⟨rfl, d3, P1.out.pm.trans (pm.wide (by omega) P1.out.rng.2.1), (P1.out.qd.pm pm P1.out.rng.2.1).done sd, aa, (P1.out.up_.trans u).below bb⟩)
          clear pm a u hp1 hp2 hh RV PM2 A3 U3 HP
          go_upto_region 15 with fail
          go_cut [75] from 68 to 75 (fun x wx => ∃ r : Bool, x = .bool r ∧ wx = wc)
          case first =>
            by_cases hh1 : h' = 1
            · subst hh1
              cases p <;> cases q
              all_goals
                go_wp2_with fail
                go_meet
                exact ⟨_, rfl, rfl⟩
            · have hz : (h' == 1) = false := by rw [beq_eq_false_iff_ne]; exact hh1
              cases p <;> cases q
              all_goals
                go_wp2_with fail
                go_meet
                exact ⟨_, rfl, rfl⟩
          case rest =>
            obtain ⟨r, rfl, rfl⟩ := hcut
            go_upto_if 75 with fail
            go_cut [] from 76 to 80 (fun wx => At wx g b cap n S T bl d3 ∧ Upd wr bl wx)
            case first =>
              cases r
              · go_wp2_with fail
                go_meet
                exact ⟨A4.out, U4.out⟩
              · go_wp2_with fail
                refine PI.out.mono ?_
                rintro e w1 ⟨r2, rfl, hs, a, bb⟩
                cases r2
                · have A5 := Lib.hid a
                  have U5 := Lib.hid (U4.out.below bb)
                  clear a bb hs PI
                  go_wp2_with fail
                  go_meet
                  exact ⟨A5.out, U5.out⟩
                · have F5 := Lib.hid (FIN.out _ bb a (hs rfl))
                  clear a bb hs PI
                  go_wp2_with fail
                  first | go_end0 | (refine bodyPost_ret (results_none rfl _ _ _) rfl ?_)
                  exact F5.out
            case rest =>
              obtain ⟨a, u⟩ := hcut
              have A5 := Lib.hid a
              have U5 := Lib.hid u
              clear a u A4 U4 PI FIN
              have QD : Hid (Qd T n lo hi d3) := Lib.hid (P1.out.qd.pm PM3.out P1.out.rng.2.1)
              go_upto_region 17 with fail
              go_cut [97] from 81 to 97 (fun x wx => x = .bool false ∧ Below wc.heap.size wc wx)
              case first =>
                have hh := HH.out
                have hp3 := HP3.out
                by_cases hlo : 0 < lo
                · obtain ⟨k, hk⟩ : ∃ k, lo = k + 1 := ⟨lo - 1, by omega⟩
                  have e1 : (lo : Int) - 1 = k := by omega
                  have zz : (0 : Int) < lo := by omega
                  have zd2 : decide ((0 : Int) < lo) = true := decide_eq_true zz
                  have z1 : (k : Int) < n := by omega
                  have z2 : (0 : Int) ≤ k := by omega
                  have z3 : (p' : Int) < n := by omega
                  have z4 : (0 : Int) ≤ p' := by omega
                  have hbl : bl < wc.heap.size := A5.out.ln.lt
                  have x1 : wc.cell? ⟨bl, k, none⟩ = some (.int .i64 (d3 k)) := A5.out.ln.cell (by omega)
                  have x0 : wc.cell? ⟨bl, p', none⟩ = some (.int .i64 (d3 p')) := A5.out.ln.cell (by omega)
                  have CM := Lib.hid (fun (w' : World) (hw : Below wc.heap.size wc w') => A5.out.cmp hn (show k < n by omega) (show p' < n by omega) hw)
                  have hvd : decide (aheadV T (d3 k) (d3 p') < 0) = true := by rw [aheadV_lt]; exact decide_eq_true (QD.out k p' (by omega) (by omega) (Or.inl (by omega)))
                  obtain ⟨v, hv⟩ : ∃ v, aheadV T (d3 k) (d3 p') = v := ⟨_, rfl⟩
                  rw [hv] at CM hvd
                  clear hv hk hh hp3
                  refine wp_region_more (by kernel_rfl) (by kernel_rfl) ?_
                  repeat (go_big_quiet_step ((go_at_call 30; exact quiet_more ((CM.out _ (below_more _)).mono (fun _ _ h => h)))))
                  refine wpQuiet_nil ?_
                  rintro _ ⟨nq, rfl⟩
                  have B5 := Lib.hid (below_more (w := wc) nq)
                  generalize moreOf wc nq = w5 at B5 ⊢
                  clear CM x1 x0 hbl
                  go_wp2_with fail
                  go_meet
                  exact ⟨rfl, B5.out⟩
                · have hl0 : lo = 0 := by omega
                  have zd2 : decide ((0 : Int) < lo) = false := decide_eq_false (by omega)
                  have zz : ¬ (0 : Int) < lo := by omega
                  have zn : decide (0 < lo) = false := decide_eq_false (by omega)
                  clear hl0 hh hp3
                  refine wp_region_more (by kernel_rfl) (by kernel_rfl) ?_
                  repeat (go_big_quiet_step (fail))
                  refine wpQuiet_nil ?_
                  rintro _ ⟨nq, rfl⟩
                  have B5 := Lib.hid (below_more (w := wc) nq)
                  generalize moreOf wc nq = w5 at B5 ⊢
                  go_wp2_with fail
                  go_meet
                  exact ⟨rfl, B5.out⟩
              case rest =>
                obtain ⟨rfl, bb⟩ := hcut
                have A6 := A5.out.kept bb
                have U6 := Lib.hid (U5.out.below bb)
                have PT := Lib.hid (partition_any A6 hn lo hi p' c (by have := HH.out; omega) (by have := HH.out; omega) HP3.out.1 HP3.out.2)
                clear bb A5 U5 A6
                go_wp2_with fail
                refine PT.out.mono ?_
                rintro e w6 ⟨m, r, rfl, d4, pm, pd, a, u⟩
                have PM4 := Lib.hid pm
                have PD := Lib.hid pd
                have A7 := Lib.hid a
                have U7 := Lib.hid (U6.out.trans u)
                have Q4 := Lib.hid (QD.out.pm pm P1.out.rng.2.1)
                have hm1 : lo ≤ m := pd.1
                have hm2 : m < hi := pd.2.1
                clear pm a u U6 PT QD pd
                have ex : (m : Int) - lo = ((m - lo : Nat) : Int) := by omega
                have ey : (hi : Int) - m = ((hi - m : Nat) : Int) := by omega
                obtain ⟨x, hx⟩ : ∃ x, m - lo = x := ⟨_, rfl⟩
                obtain ⟨y, hy⟩ : ∃ x, hi - m = x := ⟨_, rfl⟩
                rw [hx] at ex
                rw [hy] at ey
                have em : (m : Int) + 1 = ((m + 1 : Nat) : Int) := by omega
                have HXY := Lib.hid (show m = lo + x ∧ hi = m + y ∧ x + y = L by have := HH.out; omega)
                clear hx hy
                by_cases hxy : x < y
                · have zx : (x : Int) < y := by omega
                  have zxd : decide ((x : Int) < y) = true := decide_eq_true zx
                  have PS := Lib.hid (pdq_small A7.out hn lo m c lim' (by omega) (by have := HH.out; omega) (by have := HXY.out; have := HH.out; omega))
                  clear em
                  go_wp2_with fail
                  refine PS.out.mono ?_
                  rintro e w7 ⟨rfl, d5, pm, sd, a, u⟩
                  have PQ5 : Hid (PQ w g b cap n S T bl d (m + 1) hi lim' d5 w7) := Lib.hid ⟨by have := HXY.out; have := HH.out; have := HL.out; omega, ((P1.out.pm.trans (PM3.out.wide (by omega) P1.out.rng.2.1)).trans (PM4.out.wide (by omega) P1.out.rng.2.1)).trans (pm.wide (by omega) (by have := HH.out; omega)), (Q4.out.pm (pm.wide (Nat.le_refl _) (by omega)) P1.out.rng.2.1).left (PD.out.pmL pm) sd, a, P1.out.up_.trans (U7.out.trans u)⟩
                  clear pm sd a u PS
                  go_wp2_with fail
                  go_roundw
                  case rel => exact ⟨m + 1, hi, lim', _, _, d5, by go_num, rfl, rfl, rfl, rfl, PQ5.out⟩
                  case measure => simp [intOf] <;> omega
                · have zx : ¬ (x : Int) < y := by omega
                  have zxd : decide ((x : Int) < y) = false := decide_eq_false zx
                  have PS := Lib.hid (pdq_small A7.out hn (m + 1) hi c lim' (by omega) (by have := HH.out; omega) (by have := HXY.out; have := HH.out; omega))
                  obtain ⟨m2, hm2'⟩ : ∃ m2, m + 1 = m2 := ⟨_, rfl⟩
                  rw [hm2'] at PS em
                  have HM2 := Lib.hid hm2'
                  clear hm2'
                  go_wp2_with fail
                  refine PS.out.mono ?_
                  rintro e w7 ⟨rfl, d5, pm, sd, a, u⟩
                  rw [← HM2.out] at pm sd
                  have PQ5 : Hid (PQ w g b cap n S T bl d lo m lim' d5 w7) := Lib.hid ⟨by have := HXY.out; have := HH.out; have := HL.out; omega, ((P1.out.pm.trans (PM3.out.wide (by omega) P1.out.rng.2.1)).trans (PM4.out.wide (by omega) P1.out.rng.2.1)).trans (pm.wide (by omega) (by have := HH.out; omega)), (Q4.out.pm (pm.wide (by omega) (Nat.le_refl _)) P1.out.rng.2.1).right (PD.out.pmR pm) sd, a, P1.out.up_.trans (U7.out.trans u)⟩
                  clear pm sd a u PS
                  go_wp2_with fail
                  go_roundw
                  case rel => exact ⟨lo, m, lim', _, _, d5, rfl, rfl, rfl, rfl, rfl, PQ5.out⟩
                  case measure => simp [intOf] <;> omega
end
end Go.Proofs.Ytfigepnpegnhkaa
