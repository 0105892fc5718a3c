/- partition. -/
import Derived.Test.YtfigepnpegnhkaaClkF
import Derived.Deep.DeepCutAuto
import Derived.Deep.CutBlock
namespace Go.Proofs.Ytfigepnpegnhkaa
open Go.RowKit
set_option linter.unusedVariables false
set_option linter.unusedSimpArgs false
set_option maxRecDepth 100000
/-- Parted up to i from below, from j on from above; the pivot at lo. -/
def Pt (T : Nat → Int) (lo hi i j : Nat) (d : Nat → Nat) : Prop := (∀ k, lo < k → k < i → ahd T (d k) (d lo)) ∧ (∀ k, j < k + 1 → k < hi → ahd T (d lo) (d k))
/-- Parted about m. -/
def Pd (T : Nat → Int) (lo hi m : Nat) (d : Nat → Nat) : Prop := lo ≤ m ∧ m < hi ∧ (∀ k, lo ≤ k → k < m → ahd T (d k) (d m)) ∧ (∀ k, m < k → k < hi → ahd T (d m) (d k))
theorem swp_l (d : Nat → Nat) (i j : Nat) : swp d i j j = d i := by unfold swp; rw [if_pos rfl]
theorem swp_r (d : Nat → Nat) (i j : Nat) : swp d i j i = d j := by
  unfold swp
  by_cases h : i = j
  · rw [if_pos h, h]
  · rw [if_neg h, if_pos rfl]
theorem swp_o (d : Nat → Nat) {i j k : Nat} (h : k ≠ i) (h2 : k ≠ j) : swp d i j k = d k := by unfold swp; rw [if_neg h2, if_neg h]
theorem Pt.start (T : Nat → Int) (lo hi : Nat) (d : Nat → Nat) : Pt T lo hi (lo + 1) hi d := ⟨fun k h1 h2 => by omega, fun k h1 h2 => by omega⟩
/-- j counts one more than the place that is looked at. -/
theorem Pt.up {T : Nat → Int} {lo hi i j : Nat} {d : Nat → Nat} (h : Pt T lo hi i j d) (c : ahd T (d i) (d lo)) : Pt T lo hi (i + 1) j d :=
  ⟨fun k h1 h2 => by
    by_cases e : k = i
    · rw [e]; exact c
    · exact h.1 k h1 (by omega), h.2⟩
theorem Pt.down {T : Nat → Int} {lo hi i j : Nat} {d : Nat → Nat} (h : Pt T lo hi i (j + 1) d) (c : ahd T (d lo) (d j)) : Pt T lo hi i j d :=
  ⟨h.1, fun k h1 h2 => by
    by_cases e : k = j
    · rw [e]; exact c
    · exact h.2 k (by omega) h2⟩
theorem Pt.swap {T : Nat → Int} {lo hi i j : Nat} {d : Nat → Nat} (h : Pt T lo hi i (j + 1) d) (hl : lo < i) (hij : i < j) (c1 : ahd T (d lo) (d i)) (c2 : ahd T (d j) (d lo)) : Pt T lo hi (i + 1) j (swp d i j) := by
  have e0 : swp d i j lo = d lo := swp_o d (by omega) (by omega)
  constructor
  · intro k h1 h2
    rw [e0]
    by_cases e : k = i
    · rw [e, swp_r]; exact c2
    · rw [swp_o d e (by omega)]; exact h.1 k h1 (by omega)
  · intro k h1 h2
    rw [e0]
    by_cases e : k = j
    · rw [e, swp_l]; exact c1
    · rw [swp_o d (by omega) e]; exact h.2 k (by omega) h2
theorem Pt.last {T : Nat → Int} {lo hi i m : Nat} {d : Nat → Nat} (h : Pt T lo hi i (m + 1) d) (hl : lo ≤ m) (hm : m < hi) (hie : i = m + 1) : Pd T lo hi m (swp d m lo) := by
  subst hie
  refine ⟨hl, hm, fun k h1 h2 => ?_, fun k h1 h2 => ?_⟩
  · rw [swp_r]
    by_cases e : k = lo
    · rw [e, swp_l]; exact h.1 m (by omega) (by omega)
    · rw [swp_o d (by omega) e]; exact h.1 k (by omega) (by omega)
  · rw [swp_r, swp_o d (by omega) (by omega)]; exact h.2 k (by omega) h2
/-- How a partition stands. -/
structure PS (w0 : World) (g b cap n : Nat) (S T : Nat → Int) (bl : Nat) (d : Nat → Nat) (lo hi i J : Nat) (d' : Nat → Nat) (w : World) : Prop where
  rng : lo < i ∧ i ≤ J ∧ J ≤ hi
  pm : Pm lo hi d d'
  pt : Pt T lo hi i J d'
  at_ : At w g b cap n S T bl d'
  up_ : Upd w0 bl w
section
variable {w0 w w' : World} {g b cap n bl lo hi i J : Nat} {S T : Nat → Int} {d d' : Nat → Nat}
theorem PS.kept (h : PS w0 g b cap n S T bl d lo hi i J d' w) (k : Below w.heap.size w w') : PS w0 g b cap n S T bl d lo hi i J d' w' := ⟨h.rng, h.pm, h.pt, h.at_.kept k, h.up_.below k⟩
theorem PS.up (h : PS w0 g b cap n S T bl d lo hi i J d' w) (hl : i < J) (c : ahd T (d' i) (d' lo)) : PS w0 g b cap n S T bl d lo hi (i + 1) J d' w := ⟨⟨by have := h.rng; omega, hl, h.rng.2.2⟩, h.pm, h.pt.up c, h.at_, h.up_⟩
theorem PS.down {k : Nat} (h : PS w0 g b cap n S T bl d lo hi i (k + 1) d' w) (hl : i < k + 1) (c : ahd T (d' lo) (d' k)) : PS w0 g b cap n S T bl d lo hi i k d' w := ⟨⟨h.rng.1, by omega, by have := h.rng; omega⟩, h.pm, h.pt.down c, h.at_, h.up_⟩
theorem PS.up_not (h : PS w0 g b cap n S T bl d lo hi i J d' w) (hl : i < J) (hn : hi ≤ n) (c : ¬ ahd T (d' i) (d' lo)) : ahd T (d' lo) (d' i) := by
  have := h.rng
  exact (ahd_total T (fun e => by have := h.at_.row.inj _ _ (by omega) (by omega) e; omega)).resolve_right c
theorem PS.down_not {k : Nat} (h : PS w0 g b cap n S T bl d lo hi i (k + 1) d' w) (hn : i ≤ k ∧ hi ≤ n) (c : ¬ ahd T (d' k) (d' lo)) : ahd T (d' lo) (d' k) := by
  have := h.rng
  exact (ahd_total T (fun e => by have := h.at_.row.inj _ _ (by omega) (by omega) e; omega)).resolve_right c
end
theorem second_cell {w : World} {bl i j : Nat} {v u : Value} (h : w.cell? ⟨bl, i, none⟩ = some v) (k : w.cell? ⟨bl, j, none⟩ = some u) (x : Value) : ∃ u, (w.setCell ⟨bl, i, none⟩ x).cell? ⟨bl, j, none⟩ = some u := by
  by_cases e : i = j
  · subst e; exact ⟨_, World.cell?_setCell_same' _ _ _ (by rw [h]; rfl)⟩
  · exact ⟨_, keepSetO k (Ne.symm e)⟩
/-- What partition says. -/
def PrtP (W : World) (g b cap n : Nat) (S T : Nat → Int) (bl : Nat) (d : Nat → Nat) (lo hi : Nat) (e : Ending) (w' : World) : Prop :=
  ∃ (m : Nat) (r : Bool), e = .returned (.tuple #[.int .i64 m, .bool r]) ∧ ∃ d', Pm lo hi d d' ∧ Pd T lo hi m d' ∧ At w' g b cap n S T bl d' ∧ Upd W bl w'
section
variable {w w' : World} {g b cap n bl sb : Nat} {S T : Nat → Int} {d d' : Nat → Nat}
set_option maxHeartbeats 8000000 in
theorem partition_any (A : At w g b cap n S T bl d) (hn : n ≤ 16) (lo hi pv c : Nat) (h1 : lo < hi) (h2 : hi ≤ n) (p1 : lo ≤ pv) (p2 : pv < hi) :
    Calls Try.prog 50 #[.slice (some ⟨bl, 0, none⟩) n c, .int .i64 lo, .int .i64 hi, .int .i64 pv, cmpV g] w (PrtP w g b cap n S T bl d lo hi) := by
  have HA := Lib.hid A
  have hbl : bl < w.heap.size := A.ln.lt
  have z1 : (lo : Int) < n := by omega
  have z2 : (pv : Int) < n := by omega
  have z3 : (0 : Int) ≤ lo := by omega
  have z4 : (0 : Int) ≤ pv := by omega
  have y1 : w.cell? ⟨bl, lo, none⟩ = some (.int .i64 (d lo)) := A.ln.cell (by omega)
  have y0 : w.cell? ⟨bl, pv, none⟩ = some (.int .i64 (d pv)) := A.ln.cell (by omega)
  have g1 := A.ln.frozen lo
  have g0 := A.ln.frozen pv
  have y0' : ∃ u, (w.setCell ⟨bl, lo, none⟩ (.int .i64 (d pv))).cell? ⟨bl, pv, none⟩ = some u := by
    by_cases e : lo = pv
    · subst e; exact ⟨_, World.cell?_setCell_same' _ _ _ (by rw [y1]; rfl)⟩
    · exact ⟨_, keepSetO y0 (by omega)⟩
  obtain ⟨u0, y0'⟩ := y0'
  have SW : Hid (Ln ((w.setCell ⟨bl, lo, none⟩ (.int .i64 (d pv))).setCell ⟨bl, pv, none⟩ (.int .i64 (d lo))) bl n (swp d lo pv)) := Lib.hid (A.ln.swap (by omega) (by omega))
  have NR := Lib.hid (A.row.sw (i := lo) (j := pv) (by omega) (by omega))
  have NP := Lib.hid ((Pm.refl (a := lo) (b := hi) (d := d)).sw (i := lo) (j := pv) (by omega) (by omega) (by omega) (by omega))
  have mixed := mixed
  clear A
  go_enter Try.func50, Try.ntmps50
  try simp only [List.append_eq, List.cons_append, List.nil_append]
  go_wp2_with fail
  go_big_region_o
  have A4 : Hid (At ((w.setCell ⟨bl, lo, none⟩ (.int .i64 (d pv))).setCell ⟨bl, pv, none⟩ (.int .i64 (d lo))).drew g b cap n S T bl (swp d lo pv)) := Lib.hid (HA.out.upd (((Upd.refl w bl).set _ _).set _ _).drew SW.out NR.out)
  have U4 : Hid (Upd w bl ((w.setCell ⟨bl, lo, none⟩ (.int .i64 (d pv))).setCell ⟨bl, pv, none⟩ (.int .i64 (d lo))).drew) := Lib.hid ((((Upd.refl w bl).set _ _).set _ _).drew)
  generalize ((w.setCell ⟨bl, lo, none⟩ (.int .i64 (d pv))).setCell ⟨bl, pv, none⟩ (.int .i64 (d lo))).drew = w4 at A4 U4 ⊢
  clear y1 y0 g1 g0 y0' SW HA hbl mixed
  obtain ⟨jz, hjz⟩ : ∃ jz : Int, (hi : Int) - 1 = jz := ⟨_, rfl⟩
  have P0 : Hid (PS w g b cap n S T bl d lo hi (lo + 1) hi (swp d lo pv) w4) := Lib.hid ⟨⟨by omega, by omega, by omega⟩, NP.out, Pt.start _ _ _ _, A4.out, U4.out⟩
  have HJZ : Hid (jz = (hi : Int) - 1) := Lib.hid hjz.symm
  obtain ⟨d1, hd1⟩ : ∃ d1, swp d lo pv = d1 := ⟨_, rfl⟩
  rw [hd1] at P0
  clear A4 U4 NP NR hd1
  go_upto_block 0 with fail
  go_cut [12] from 32 to 49 (fun x wx => ∃ i : Nat, x = .int .i64 i ∧ PS w g b cap n S T bl d lo hi i hi d1 wx ∧ (lo + 1) ≤ i ∧ (i = hi ∨ i < hi ∧ ahd T (d1 lo) (d1 i)))
  case first =>
    go_wp2_with fail
    go_loopw [12] (fun x wr => ∃ i : Nat, x = .int .i64 i ∧ PS w g b cap n S T bl d lo hi i hi d1 wr ∧ (lo + 1) ≤ i) (fun x _ => hi - (intOf x).toNat)
    case atStart => exact ⟨(lo + 1), by first | rfl | go_num, P0.out, Nat.le_refl _⟩
    case round =>
      obtain ⟨i, rfl, ps, hle⟩ := hrel
      have HP := Lib.hid ps
      clear ps P0
      have hq := HP.out.rng
      have hjz := HJZ.out
      by_cases hlt : i < hi
      · have z : (i : Int) ≤ jz := by omega
        have zd : decide ((i : Int) ≤ jz) = true := decide_eq_true z
        have z1 : (0 : Int) ≤ i := by omega
        have z2 : (i : Int) < n := by omega
        have hbl : bl < wr.heap.size := HP.out.at_.ln.lt
        have x1 : wr.cell? ⟨bl, i, none⟩ = some (.int .i64 (d1 i)) := HP.out.at_.ln.cell (by omega)
        have x0 : wr.cell? ⟨bl, lo, none⟩ = some (.int .i64 (d1 lo)) := HP.out.at_.ln.cell (by omega)
        have CM := Lib.hid (fun (w' : World) (hw : Below wr.heap.size wr w') => HP.out.at_.cmp hn (show i < n by omega) (show lo < n by omega) hw)
        have AV := Lib.hid (aheadV_lt T (d1 i) (d1 lo))
        obtain ⟨v, hv⟩ : ∃ v, aheadV T (d1 i) (d1 lo) = v := ⟨_, rfl⟩
        rw [hv] at CM AV
        clear hv hjz
        by_cases hc : ahd T (d1 i) (d1 lo)
        · have hvd : decide (v < 0) = true := by rw [AV.out]; exact decide_eq_true hc
          have HC := Lib.hid hc
          clear hc AV
          go_wp2_with fail
          refine wp_region_more (by kernel_rfl) (by kernel_rfl) ?_
          repeat (go_big_quiet_step ((go_at_call 30; exact quiet_more ((CM.out _ (below_more _)).mono (fun _ _ h => h)))))
          refine wpQuiet_nil ?_
          rintro _ ⟨nq, rfl⟩
          have P3 := Lib.hid (HP.out.kept (below_more nq))
          generalize moreOf wr nq = w3 at P3 ⊢
          clear CM x1 x0 hbl HP
          go_wp2_with fail
          go_roundw
          case rel => exact ⟨i + 1, by go_num, P3.out.up hlt HC.out, by omega⟩
          case measure => simp [intOf] <;> omega
        · have hvd : decide (v < 0) = false := by rw [AV.out]; exact decide_eq_false hc
          have NE := Lib.hid (HP.out.up_not hlt (by omega) hc)
          clear hc AV
          go_wp2_with fail
          refine wp_region_more (by kernel_rfl) (by kernel_rfl) ?_
          repeat (go_big_quiet_step ((go_at_call 30; exact quiet_more ((CM.out _ (below_more _)).mono (fun _ _ h => h)))))
          refine wpQuiet_nil ?_
          rintro _ ⟨nq, rfl⟩
          have P3 := Lib.hid (HP.out.kept (below_more nq))
          generalize moreOf wr nq = w3 at P3 ⊢
          clear CM x1 x0 hbl HP
          go_wp2_with fail
          go_meet
          exact ⟨i, rfl, P3.out, hle, Or.inr ⟨hlt, NE.out⟩⟩
      · have hij : i = hi := by omega
        have z : ¬ (i : Int) ≤ jz := by omega
        have zd : decide ((i : Int) ≤ jz) = false := decide_eq_false z
        have HIJ := Lib.hid hij
        clear hjz hij
        go_wp2_with fail
        refine wp_region_more (by kernel_rfl) (by kernel_rfl) ?_
        repeat (go_big_quiet_step (fail))
        refine wpQuiet_nil ?_
        rintro _ ⟨nq, rfl⟩
        have P3 := Lib.hid (HP.out.kept (below_more nq))
        generalize moreOf wr nq = w3 at P3 ⊢
        clear HP
        go_wp2_with fail
        go_meet
        exact ⟨i, rfl, P3.out, hle, Or.inl HIJ.out⟩
  case rest =>
    obtain ⟨i, rfl, ps, hle, hx⟩ := hcut
    have X1 := Lib.hid hx
    have HLE := Lib.hid hle
    have P1 := Lib.hid ps
    clear ps hle hx P0
    go_upto_block 2 with fail
    go_cut [13] from 50 to 68 (fun y wx => ∃ (J' : Nat) (jy : Int), y = .int .i64 jy ∧ jy = (J' : Int) - 1 ∧ PS w g b cap n S T bl d lo hi i J' d1 wx ∧ J' ≤ hi ∧ (i = J' ∨ i < J' ∧ ahd T (d1 (J' - 1)) (d1 lo)))
    case first =>
      go_wp2_with fail
      go_loopw [13] (fun y wr => ∃ (J' : Nat) (jy : Int), y = .int .i64 jy ∧ jy = (J' : Int) - 1 ∧ PS w g b cap n S T bl d lo hi i J' d1 wr ∧ J' ≤ hi) (fun y _ => (intOf y + 1).toNat)
      case atStart => exact ⟨hi, _, rfl, HJZ.out, P1.out, Nat.le_refl _⟩
      case round =>
        obtain ⟨J', jy, rfl, hjy, ps, hle⟩ := hrel
        have HP := Lib.hid ps
        clear ps P1
        have hq := HP.out.rng
        by_cases hlt : i < J'
        · obtain ⟨k, hk⟩ : ∃ k, J' = k + 1 := ⟨J' - 1, by omega⟩
          subst hk
          obtain rfl : jy = (k : Int) := by omega
          have z : (i : Int) ≤ k := by omega
          have zd : decide ((i : Int) ≤ k) = true := decide_eq_true z
          have z1 : (0 : Int) ≤ k := by omega
          have z2 : (k : Int) < n := by omega
          have hbl : bl < wr.heap.size := HP.out.at_.ln.lt
          have x1 : wr.cell? ⟨bl, k, none⟩ = some (.int .i64 (d1 k)) := HP.out.at_.ln.cell (by omega)
          have x0 : wr.cell? ⟨bl, lo, none⟩ = some (.int .i64 (d1 lo)) := HP.out.at_.ln.cell (by omega)
          have CM := Lib.hid (fun (w' : World) (hw : Below wr.heap.size wr w') => HP.out.at_.cmp hn (show k < n by omega) (show lo < n by omega) hw)
          have AV := Lib.hid (aheadV_lt T (d1 k) (d1 lo))
          obtain ⟨v, hv⟩ : ∃ v, aheadV T (d1 k) (d1 lo) = v := ⟨_, rfl⟩
          rw [hv] at CM AV
          clear hv hjy
          by_cases hc : ahd T (d1 k) (d1 lo)
          · have hvd : decide (v < 0) = true := by rw [AV.out]; exact decide_eq_true hc
            have HC := Lib.hid hc
            clear hc AV
            go_wp2_with fail
            refine wp_region_more (by kernel_rfl) (by kernel_rfl) ?_
            repeat (go_big_quiet_step ((go_at_call 30; exact quiet_more ((CM.out _ (below_more _)).mono (fun _ _ h => h)))))
            refine wpQuiet_nil ?_
            rintro _ ⟨nq, rfl⟩
            have P3 := Lib.hid (HP.out.kept (below_more nq))
            generalize moreOf wr nq = w3 at P3 ⊢
            clear CM x1 x0 hbl HP
            go_wp2_with fail
            go_meet
            exact ⟨k + 1, _, rfl, by omega, P3.out, hle, Or.inr ⟨hlt, by rw [Nat.add_sub_cancel]; exact HC.out⟩⟩
          · have hvd : decide (v < 0) = false := by rw [AV.out]; exact decide_eq_false hc
            have NE := Lib.hid (HP.out.down_not (by omega) hc)
            clear hc AV
            go_wp2_with fail
            refine wp_region_more (by kernel_rfl) (by kernel_rfl) ?_
            repeat (go_big_quiet_step ((go_at_call 30; exact quiet_more ((CM.out _ (below_more _)).mono (fun _ _ h => h)))))
            refine wpQuiet_nil ?_
            rintro _ ⟨nq, rfl⟩
            have P3 := Lib.hid (HP.out.kept (below_more nq))
            generalize moreOf wr nq = w3 at P3 ⊢
            clear CM x1 x0 hbl HP
            go_wp2_with fail
            go_roundw
            case rel => exact ⟨k, _, rfl, by omega, P3.out.down hlt NE.out, by omega⟩
            case measure => simp [intOf] <;> omega
        · have hij : i = J' := by omega
          have z : ¬ (i : Int) ≤ jy := by omega
          have zd : decide ((i : Int) ≤ jy) = false := decide_eq_false z
          have HIJ := Lib.hid hij
          have HJY := Lib.hid hjy
          clear hjy hij
          go_wp2_with fail
          refine wp_region_more (by kernel_rfl) (by kernel_rfl) ?_
          repeat (go_big_quiet_step (fail))
          refine wpQuiet_nil ?_
          rintro _ ⟨nq, rfl⟩
          have P3 := Lib.hid (HP.out.kept (below_more nq))
          generalize moreOf wr nq = w3 at P3 ⊢
          clear HP
          go_wp2_with fail
          go_meet
          exact ⟨J', jy, rfl, HJY.out, P3.out, hle, Or.inl HIJ.out⟩
    case rest =>
      obtain ⟨J2, jy, rfl, hjy, ps, hle2, hx2⟩ := hcut
      have X2 := Lib.hid hx2
      have P2 := Lib.hid ps
      have hq := P2.out.rng
      clear ps hx2 P1
      by_cases he : i = J2
      · obtain ⟨m, hm⟩ : ∃ m, J2 = m + 1 := ⟨J2 - 1, by omega⟩
        subst hm
        have LST : Hid (Pd T lo hi m (swp d1 m lo)) := Lib.hid (P2.out.pt.last (by omega) (by omega) he)
        obtain rfl : jy = (m : Int) := by omega
        clear hjy
        have zz : (m : Int) < i := by omega
        have zd : decide ((m : Int) < i) = true := decide_eq_true zz
        have PX := P2
        have hbl : bl < wc.heap.size := PX.out.at_.ln.lt
        have a1 : (m : Int) < n := by omega
        have a2 : (lo : Int) < n := by omega
        have a3 : (0 : Int) ≤ m := by omega
        have a4 : (0 : Int) ≤ lo := by omega
        have y1 : wc.cell? ⟨bl, m, none⟩ = some (.int .i64 (d1 m)) := PX.out.at_.ln.cell (by omega)
        have y0 : wc.cell? ⟨bl, lo, none⟩ = some (.int .i64 (d1 lo)) := PX.out.at_.ln.cell (by omega)
        have g1 := PX.out.at_.ln.frozen m
        have g0 := PX.out.at_.ln.frozen lo
        obtain ⟨u0, y0'⟩ : ∃ u, (wc.setCell ⟨bl, m, none⟩ (.int .i64 (d1 lo))).cell? ⟨bl, lo, none⟩ = some u := second_cell y1 y0 _
        have SW : Hid (At ((wc.setCell ⟨bl, m, none⟩ (.int .i64 (d1 lo))).setCell ⟨bl, lo, none⟩ (.int .i64 (d1 m))).drew g b cap n S T bl (swp d1 m lo)) := Lib.hid (PX.out.at_.upd (((Upd.refl wc bl).set _ _).set _ _).drew (PX.out.at_.ln.swap (by omega) (by omega)) (PX.out.at_.row.sw (by omega) (by omega)))
        have UW : Hid (Upd w bl ((wc.setCell ⟨bl, m, none⟩ (.int .i64 (d1 lo))).setCell ⟨bl, lo, none⟩ (.int .i64 (d1 m))).drew) := Lib.hid ((PX.out.up_.set _ _).set _ _).drew
        have NPM := Lib.hid (PX.out.pm.sw (i := m) (j := lo) (by omega) (by omega) (by omega) (by omega))
        have mixed := mixed
        clear PX P2
        go_wp2_with fail
        go_big_region_o
        generalize ((wc.setCell ⟨bl, m, none⟩ (.int .i64 (d1 lo))).setCell ⟨bl, lo, none⟩ (.int .i64 (d1 m))).drew = w5 at SW UW ⊢
        clear y1 y0 g1 g0 y0' hbl mixed
        go_wp2_with fail
        go_ret2
        exact ⟨m, true, rfl, swp d1 m lo, NPM.out, LST.out, SW.out, UW.out⟩
      · have X3 := X2.out.resolve_left he
        have hlt : i < J2 := X3.1
        have X4 : ahd T (d1 lo) (d1 i) := by
          rcases X1.out with h | h
          · omega
          · exact h.2
        obtain ⟨k, hk⟩ : ∃ k, J2 = k + 1 := ⟨J2 - 1, by omega⟩
        subst hk
        rw [Nat.add_sub_cancel] at X3
        have hik : i ≠ k := fun e => by rw [← e] at X3; exact ahd_asymm T X4 X3.2
        have NXT := Lib.hid (P2.out.pt.swap (by omega) (by omega) X4 X3.2)
        obtain rfl : jy = (k : Int) := by omega
        clear hjy
        have zz : ¬ (k : Int) < i := by omega
        have zd : decide ((k : Int) < i) = false := decide_eq_false zz
        have PX := P2
        have hbl : bl < wc.heap.size := PX.out.at_.ln.lt
        have a1 : (i : Int) < n := by omega
        have a2 : (k : Int) < n := by omega
        have a3 : (0 : Int) ≤ i := by omega
        have a4 : (0 : Int) ≤ k := by omega
        have y1 : wc.cell? ⟨bl, i, none⟩ = some (.int .i64 (d1 i)) := PX.out.at_.ln.cell (by omega)
        have y0 : wc.cell? ⟨bl, k, none⟩ = some (.int .i64 (d1 k)) := PX.out.at_.ln.cell (by omega)
        have g1 := PX.out.at_.ln.frozen i
        have g0 := PX.out.at_.ln.frozen k
        obtain ⟨u0, y0'⟩ : ∃ u, (wc.setCell ⟨bl, i, none⟩ (.int .i64 (d1 k))).cell? ⟨bl, k, none⟩ = some u := second_cell y1 y0 _
        have SW : Hid (At ((wc.setCell ⟨bl, i, none⟩ (.int .i64 (d1 k))).setCell ⟨bl, k, none⟩ (.int .i64 (d1 i))).drew g b cap n S T bl (swp d1 i k)) := Lib.hid (PX.out.at_.upd (((Upd.refl wc bl).set _ _).set _ _).drew (PX.out.at_.ln.swap (by omega) (by omega)) (PX.out.at_.row.sw (by omega) (by omega)))
        have UW : Hid (Upd w bl ((wc.setCell ⟨bl, i, none⟩ (.int .i64 (d1 k))).setCell ⟨bl, k, none⟩ (.int .i64 (d1 i))).drew) := Lib.hid ((PX.out.up_.set _ _).set _ _).drew
        have NPM := Lib.hid (PX.out.pm.sw (i := i) (j := k) (by omega) (by omega) (by omega) (by omega))
        have mixed := mixed
        have PN : Hid (∀ w5, At w5 g b cap n S T bl (swp d1 i k) → Upd w bl w5 → PS w g b cap n S T bl d lo hi (i + 1) k (swp d1 i k) w5) := Lib.hid (fun w5 a u => ⟨⟨by omega, by omega, by omega⟩, NPM.out, NXT.out, a, u⟩)
        clear PX P2 X3 X4
        go_wp2_with fail
        go_big_region_o
        generalize ((wc.setCell ⟨bl, i, none⟩ (.int .i64 (d1 k))).setCell ⟨bl, k, none⟩ (.int .i64 (d1 i))).drew = w5 at SW UW ⊢
        clear y1 y0 g1 g0 y0' hbl mixed
        have PS5 := Lib.hid (PN.out _ SW.out UW.out)
        clear PN SW UW NPM NXT X1 X2
        go_wp2_with fail
        go_loopw [12, 13] (fun x y wr => ∃ (i J : Nat) (jz : Int) (d1 : Nat → Nat), x = .int .i64 i ∧ y = .int .i64 jz ∧ jz = (J : Int) - 1 ∧ PS w g b cap n S T bl d lo hi i J d1 wr) (fun x y _ => (intOf y + 1 - intOf x).toNat)
        case atStart => exact ⟨i + 1, k, _, swp d1 i k, by go_num, rfl, by omega, PS5.out⟩
        case round =>
          obtain ⟨i0, J, jz, d1, rfl, rfl, hjz, ps⟩ := hrel
          have P0 := Lib.hid ps
          have HJZ := Lib.hid hjz
          clear ps hjz PS5
          go_upto_block 6 with fail
          go_cut [12] from 105 to 122 (fun x wx => ∃ i : Nat, x = .int .i64 i ∧ PS w g b cap n S T bl d lo hi i J d1 wx ∧ i0 ≤ i ∧ (i = J ∨ i < J ∧ ahd T (d1 lo) (d1 i)))
          case first =>
            go_wp2_with fail
            go_loopw [12] (fun x wr => ∃ i : Nat, x = .int .i64 i ∧ PS w g b cap n S T bl d lo hi i J d1 wr ∧ i0 ≤ i) (fun x _ => J - (intOf x).toNat)
            case atStart => exact ⟨i0, by first | rfl | go_num, P0.out, Nat.le_refl _⟩
            case round =>
              obtain ⟨i, rfl, ps, hle⟩ := hrel
              have HP := Lib.hid ps
              clear ps P0
              have hq := HP.out.rng
              have hjz := HJZ.out
              by_cases hlt : i < J
              · have z : (i : Int) ≤ jz := by omega
                have zd : decide ((i : Int) ≤ jz) = true := decide_eq_true z
                have z1 : (0 : Int) ≤ i := by omega
                have z2 : (i : Int) < n := by omega
                have hbl : bl < wr.heap.size := HP.out.at_.ln.lt
                have x1 : wr.cell? ⟨bl, i, none⟩ = some (.int .i64 (d1 i)) := HP.out.at_.ln.cell (by omega)
                have x0 : wr.cell? ⟨bl, lo, none⟩ = some (.int .i64 (d1 lo)) := HP.out.at_.ln.cell (by omega)
                have CM := Lib.hid (fun (w' : World) (hw : Below wr.heap.size wr w') => HP.out.at_.cmp hn (show i < n by omega) (show lo < n by omega) hw)
                have AV := Lib.hid (aheadV_lt T (d1 i) (d1 lo))
                obtain ⟨v, hv⟩ : ∃ v, aheadV T (d1 i) (d1 lo) = v := ⟨_, rfl⟩
                rw [hv] at CM AV
                clear hv hjz
                by_cases hc : ahd T (d1 i) (d1 lo)
                · have hvd : decide (v < 0) = true := by rw [AV.out]; exact decide_eq_true hc
                  have HC := Lib.hid hc
                  clear hc AV
                  go_wp2_with fail
                  refine wp_region_more (by kernel_rfl) (by kernel_rfl) ?_
                  repeat (go_big_quiet_step ((go_at_call 30; exact quiet_more ((CM.out _ (below_more _)).mono (fun _ _ h => h)))))
                  refine wpQuiet_nil ?_
                  rintro _ ⟨nq, rfl⟩
                  have P3 := Lib.hid (HP.out.kept (below_more nq))
                  generalize moreOf wr nq = w3 at P3 ⊢
                  clear CM x1 x0 hbl HP
                  go_wp2_with fail
                  go_roundw
                  case rel => exact ⟨i + 1, by go_num, P3.out.up hlt HC.out, by omega⟩
                  case measure => simp [intOf] <;> omega
                · have hvd : decide (v < 0) = false := by rw [AV.out]; exact decide_eq_false hc
                  have NE := Lib.hid (HP.out.up_not hlt (by omega) hc)
                  clear hc AV
                  go_wp2_with fail
                  refine wp_region_more (by kernel_rfl) (by kernel_rfl) ?_
                  repeat (go_big_quiet_step ((go_at_call 30; exact quiet_more ((CM.out _ (below_more _)).mono (fun _ _ h => h)))))
                  refine wpQuiet_nil ?_
                  rintro _ ⟨nq, rfl⟩
                  have P3 := Lib.hid (HP.out.kept (below_more nq))
                  generalize moreOf wr nq = w3 at P3 ⊢
                  clear CM x1 x0 hbl HP
                  go_wp2_with fail
                  go_meet
                  exact ⟨i, rfl, P3.out, hle, Or.inr ⟨hlt, NE.out⟩⟩
              · have hij : i = J := by omega
                have z : ¬ (i : Int) ≤ jz := by omega
                have zd : decide ((i : Int) ≤ jz) = false := decide_eq_false z
                have HIJ := Lib.hid hij
                clear hjz hij
                go_wp2_with fail
                refine wp_region_more (by kernel_rfl) (by kernel_rfl) ?_
                repeat (go_big_quiet_step (fail))
                refine wpQuiet_nil ?_
                rintro _ ⟨nq, rfl⟩
                have P3 := Lib.hid (HP.out.kept (below_more nq))
                generalize moreOf wr nq = w3 at P3 ⊢
                clear HP
                go_wp2_with fail
                go_meet
                exact ⟨i, rfl, P3.out, hle, Or.inl HIJ.out⟩
          case rest =>
            obtain ⟨i, rfl, ps, hle, hx⟩ := hcut
            have X1 := Lib.hid hx
            have HLE := Lib.hid hle
            have P1 := Lib.hid ps
            clear ps hle hx P0
            go_upto_block 8 with fail
            go_cut [13] from 123 to 141 (fun y wx => ∃ (J' : Nat) (jy : Int), y = .int .i64 jy ∧ jy = (J' : Int) - 1 ∧ PS w g b cap n S T bl d lo hi i J' d1 wx ∧ J' ≤ J ∧ (i = J' ∨ i < J' ∧ ahd T (d1 (J' - 1)) (d1 lo)))
            case first =>
              go_wp2_with fail
              go_loopw [13] (fun y wr => ∃ (J' : Nat) (jy : Int), y = .int .i64 jy ∧ jy = (J' : Int) - 1 ∧ PS w g b cap n S T bl d lo hi i J' d1 wr ∧ J' ≤ J) (fun y _ => (intOf y + 1).toNat)
              case atStart => exact ⟨J, _, rfl, HJZ.out, P1.out, Nat.le_refl _⟩
              case round =>
                obtain ⟨J', jy, rfl, hjy, ps, hle⟩ := hrel
                have HP := Lib.hid ps
                clear ps P1
                have hq := HP.out.rng
                by_cases hlt : i < J'
                · obtain ⟨k, hk⟩ : ∃ k, J' = k + 1 := ⟨J' - 1, by omega⟩
                  subst hk
                  obtain rfl : jy = (k : Int) := by omega
                  have z : (i : Int) ≤ k := by omega
                  have zd : decide ((i : Int) ≤ k) = true := decide_eq_true z
                  have z1 : (0 : Int) ≤ k := by omega
                  have z2 : (k : Int) < n := by omega
                  have hbl : bl < wr.heap.size := HP.out.at_.ln.lt
                  have x1 : wr.cell? ⟨bl, k, none⟩ = some (.int .i64 (d1 k)) := HP.out.at_.ln.cell (by omega)
                  have x0 : wr.cell? ⟨bl, lo, none⟩ = some (.int .i64 (d1 lo)) := HP.out.at_.ln.cell (by omega)
                  have CM := Lib.hid (fun (w' : World) (hw : Below wr.heap.size wr w') => HP.out.at_.cmp hn (show k < n by omega) (show lo < n by omega) hw)
                  have AV := Lib.hid (aheadV_lt T (d1 k) (d1 lo))
                  obtain ⟨v, hv⟩ : ∃ v, aheadV T (d1 k) (d1 lo) = v := ⟨_, rfl⟩
                  rw [hv] at CM AV
                  clear hv hjy
                  by_cases hc : ahd T (d1 k) (d1 lo)
                  · have hvd : decide (v < 0) = true := by rw [AV.out]; exact decide_eq_true hc
                    have HC := Lib.hid hc
                    clear hc AV
                    go_wp2_with fail
                    refine wp_region_more (by kernel_rfl) (by kernel_rfl) ?_
                    repeat (go_big_quiet_step ((go_at_call 30; exact quiet_more ((CM.out _ (below_more _)).mono (fun _ _ h => h)))))
                    refine wpQuiet_nil ?_
                    rintro _ ⟨nq, rfl⟩
                    have P3 := Lib.hid (HP.out.kept (below_more nq))
                    generalize moreOf wr nq = w3 at P3 ⊢
                    clear CM x1 x0 hbl HP
                    go_wp2_with fail
                    go_meet
                    exact ⟨k + 1, _, rfl, by omega, P3.out, hle, Or.inr ⟨hlt, by rw [Nat.add_sub_cancel]; exact HC.out⟩⟩
                  · have hvd : decide (v < 0) = false := by rw [AV.out]; exact decide_eq_false hc
                    have NE := Lib.hid (HP.out.down_not (by omega) hc)
                    clear hc AV
                    go_wp2_with fail
                    refine wp_region_more (by kernel_rfl) (by kernel_rfl) ?_
                    repeat (go_big_quiet_step ((go_at_call 30; exact quiet_more ((CM.out _ (below_more _)).mono (fun _ _ h => h)))))
                    refine wpQuiet_nil ?_
                    rintro _ ⟨nq, rfl⟩
                    have P3 := Lib.hid (HP.out.kept (below_more nq))
                    generalize moreOf wr nq = w3 at P3 ⊢
                    clear CM x1 x0 hbl HP
                    go_wp2_with fail
                    go_roundw
                    case rel => exact ⟨k, _, rfl, by omega, P3.out.down hlt NE.out, by omega⟩
                    case measure => simp [intOf] <;> omega
                · have hij : i = J' := by omega
                  have z : ¬ (i : Int) ≤ jy := by omega
                  have zd : decide ((i : Int) ≤ jy) = false := decide_eq_false z
                  have HIJ := Lib.hid hij
                  have HJY := Lib.hid hjy
                  clear hjy hij
                  go_wp2_with fail
                  refine wp_region_more (by kernel_rfl) (by kernel_rfl) ?_
                  repeat (go_big_quiet_step (fail))
                  refine wpQuiet_nil ?_
                  rintro _ ⟨nq, rfl⟩
                  have P3 := Lib.hid (HP.out.kept (below_more nq))
                  generalize moreOf wr nq = w3 at P3 ⊢
                  clear HP
                  go_wp2_with fail
                  go_meet
                  exact ⟨J', jy, rfl, HJY.out, P3.out, hle, Or.inl HIJ.out⟩
            case rest =>
              obtain ⟨J2, jy, rfl, hjy, ps, hle2, hx2⟩ := hcut
              have X2 := Lib.hid hx2
              have P2 := Lib.hid ps
              have hq := P2.out.rng
              clear ps hx2 P1
              by_cases he : i = J2
              · obtain ⟨m, hm⟩ : ∃ m, J2 = m + 1 := ⟨J2 - 1, by omega⟩
                subst hm
                have LST : Hid (Pd T lo hi m (swp d1 m lo)) := Lib.hid (P2.out.pt.last (by omega) (by omega) he)
                obtain rfl : jy = (m : Int) := by omega
                clear hjy
                have zz : (m : Int) < i := by omega
                have zd : decide ((m : Int) < i) = true := decide_eq_true zz
                have PX := P2
                have hbl : bl < wc.heap.size := PX.out.at_.ln.lt
                have a1 : (m : Int) < n := by omega
                have a2 : (lo : Int) < n := by omega
                have a3 : (0 : Int) ≤ m := by omega
                have a4 : (0 : Int) ≤ lo := by omega
                have y1 : wc.cell? ⟨bl, m, none⟩ = some (.int .i64 (d1 m)) := PX.out.at_.ln.cell (by omega)
                have y0 : wc.cell? ⟨bl, lo, none⟩ = some (.int .i64 (d1 lo)) := PX.out.at_.ln.cell (by omega)
                have g1 := PX.out.at_.ln.frozen m
                have g0 := PX.out.at_.ln.frozen lo
                obtain ⟨u0, y0'⟩ : ∃ u, (wc.setCell ⟨bl, m, none⟩ (.int .i64 (d1 lo))).cell? ⟨bl, lo, none⟩ = some u := second_cell y1 y0 _
                have SW : Hid (At ((wc.setCell ⟨bl, m, none⟩ (.int .i64 (d1 lo))).setCell ⟨bl, lo, none⟩ (.int .i64 (d1 m))).drew g b cap n S T bl (swp d1 m lo)) := Lib.hid (PX.out.at_.upd (((Upd.refl wc bl).set _ _).set _ _).drew (PX.out.at_.ln.swap (by omega) (by omega)) (PX.out.at_.row.sw (by omega) (by omega)))
                have UW : Hid (Upd w bl ((wc.setCell ⟨bl, m, none⟩ (.int .i64 (d1 lo))).setCell ⟨bl, lo, none⟩ (.int .i64 (d1 m))).drew) := Lib.hid ((PX.out.up_.set _ _).set _ _).drew
                have NPM := Lib.hid (PX.out.pm.sw (i := m) (j := lo) (by omega) (by omega) (by omega) (by omega))
                have mixed := mixed
                clear PX P2
                go_wp2_with fail
                go_big_region_o
                generalize ((wc.setCell ⟨bl, m, none⟩ (.int .i64 (d1 lo))).setCell ⟨bl, lo, none⟩ (.int .i64 (d1 m))).drew = w5 at SW UW ⊢
                clear y1 y0 g1 g0 y0' hbl mixed
                go_wp2_with fail
                go_ret2
                exact ⟨m, false, rfl, swp d1 m lo, NPM.out, LST.out, SW.out, UW.out⟩
              · have X3 := X2.out.resolve_left he
                have hlt : i < J2 := X3.1
                have X4 : ahd T (d1 lo) (d1 i) := by
                  rcases X1.out with h | h
                  · omega
                  · exact h.2
                obtain ⟨k, hk⟩ : ∃ k, J2 = k + 1 := ⟨J2 - 1, by omega⟩
                subst hk
                rw [Nat.add_sub_cancel] at X3
                have hik : i ≠ k := fun e => by rw [← e] at X3; exact ahd_asymm T X4 X3.2
                have NXT := Lib.hid (P2.out.pt.swap (by omega) (by omega) X4 X3.2)
                obtain rfl : jy = (k : Int) := by omega
                clear hjy
                have zz : ¬ (k : Int) < i := by omega
                have zd : decide ((k : Int) < i) = false := decide_eq_false zz
                have PX := P2
                have hbl : bl < wc.heap.size := PX.out.at_.ln.lt
                have a1 : (i : Int) < n := by omega
                have a2 : (k : Int) < n := by omega
                have a3 : (0 : Int) ≤ i := by omega
                have a4 : (0 : Int) ≤ k := by omega
                have y1 : wc.cell? ⟨bl, i, none⟩ = some (.int .i64 (d1 i)) := PX.out.at_.ln.cell (by omega)
                have y0 : wc.cell? ⟨bl, k, none⟩ = some (.int .i64 (d1 k)) := PX.out.at_.ln.cell (by omega)
                have g1 := PX.out.at_.ln.frozen i
                have g0 := PX.out.at_.ln.frozen k
                obtain ⟨u0, y0'⟩ : ∃ u, (wc.setCell ⟨bl, i, none⟩ (.int .i64 (d1 k))).cell? ⟨bl, k, none⟩ = some u := second_cell y1 y0 _
                have SW : Hid (At ((wc.setCell ⟨bl, i, none⟩ (.int .i64 (d1 k))).setCell ⟨bl, k, none⟩ (.int .i64 (d1 i))).drew g b cap n S T bl (swp d1 i k)) := Lib.hid (PX.out.at_.upd (((Upd.refl wc bl).set _ _).set _ _).drew (PX.out.at_.ln.swap (by omega) (by omega)) (PX.out.at_.row.sw (by omega) (by omega)))
                have UW : Hid (Upd w bl ((wc.setCell ⟨bl, i, none⟩ (.int .i64 (d1 k))).setCell ⟨bl, k, none⟩ (.int .i64 (d1 i))).drew) := Lib.hid ((PX.out.up_.set _ _).set _ _).drew
                have NPM := Lib.hid (PX.out.pm.sw (i := i) (j := k) (by omega) (by omega) (by omega) (by omega))
                have mixed := mixed
                have PN : Hid (∀ w5, At w5 g b cap n S T bl (swp d1 i k) → Upd w bl w5 → PS w g b cap n S T bl d lo hi (i + 1) k (swp d1 i k) w5) := Lib.hid (fun w5 a u => ⟨⟨by omega, by omega, by omega⟩, NPM.out, NXT.out, a, u⟩)
                clear PX P2 X3 X4
                go_wp2_with fail
                go_big_region_o
                generalize ((wc.setCell ⟨bl, i, none⟩ (.int .i64 (d1 k))).setCell ⟨bl, k, none⟩ (.int .i64 (d1 i))).drew = w5 at SW UW ⊢
                clear y1 y0 g1 g0 y0' hbl mixed
                have PS5 := Lib.hid (PN.out _ SW.out UW.out)
                clear PN SW UW NPM NXT X1 X2
                go_wp2_with fail
                go_roundw
                case rel => exact ⟨i + 1, k, _, swp d1 i k, by go_num, rfl, by omega, PS5.out⟩
                case measure => have := HLE.out; have := HJZ.out; simp [intOf] <;> omega
end
end Go.Proofs.Ytfigepnpegnhkaa
