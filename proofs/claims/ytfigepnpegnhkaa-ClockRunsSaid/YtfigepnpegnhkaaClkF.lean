/- The pivot: order2, median, choosePivot; what partialInsertionSort says of a short row; reverseRange. -/
import Derived.Test.YtfigepnpegnhkaaClkE
namespace Go.Proofs.Ytfigepnpegnhkaa
open Go.RowKit
set_option linter.unusedVariables false
set_option linter.unusedSimpArgs false
set_option maxRecDepth 100000
theorem mixed : Try.prog.follows .mixedOrders = true := by kernel_rfl
/-- A counter in a block of its own. -/
structure Cn (w : World) (sb : Nat) (k : IntKind) (s : Int) : Prop where
  c : w.cell? ⟨sb, 0, none⟩ = some (.int k s)
  f : w.frozen? ⟨sb, 0, none⟩ = false
theorem Cn.kept {w w' : World} {sb : Nat} {k : IntKind} {s : Int} (h : Cn w sb k s) (b : Below w.heap.size w w') : Cn w' sb k s :=
  ⟨keepC b h.c, (b.frozen (p := ⟨sb, 0, none⟩) (World.block_lt_of_cell? _ _ h.c)).trans h.f⟩
theorem Cn.set {w : World} {sb : Nat} {k : IntKind} {s : Int} (h : Cn w sb k s) (t : Int) : Cn (w.setCell ⟨sb, 0, none⟩ (.int k t)) sb k t :=
  ⟨World.cell?_setCell_same' _ _ _ (by rw [h.c]; rfl), by rw [World.frozen?_setCell]; exact h.f⟩
theorem Cn.upd {w w' : World} {sb g : Nat} {k : IntKind} {s : Int} (h : Cn w sb k s) (u : Upd w g w') (n : sb ≠ g) : Cn w' sb k s :=
  ⟨keepU u h.c n, (u.frozen (p := ⟨sb, 0, none⟩) (World.block_lt_of_cell? _ _ h.c) n).trans h.f⟩
theorem Cn.new (w : World) (t : TypeId) (k : IntKind) (s : Int) : Cn (w.alloc (.cells #[.int k s] t)) w.heap.size k s := ⟨(Blk.new w t #[.int k s]).cell 0, (Blk.new w t #[.int k s]).frozen 0⟩
/-- What order2 says. -/
def Ord2 (W : World) (g b cap n : Nat) (S T : Nat → Int) (bl : Nat) (d : Nat → Nat) (sb i j s : Nat) (e : Ending) (w' : World) : Prop :=
  ∃ p q s' : Nat, e = .returned (.tuple #[.int .i64 p, .int .i64 q]) ∧ (p = i ∧ q = j ∨ p = j ∧ q = i) ∧ s' ≤ s + 1 ∧ Cn w' sb .i64 s' ∧ At w' g b cap n S T bl d ∧ Upd W sb w'
def MedP (W : World) (g b cap n : Nat) (S T : Nat → Int) (bl : Nat) (d : Nat → Nat) (sb i j k : Nat) (e : Ending) (w' : World) : Prop :=
  ∃ p s' : Nat, e = .returned (.int .i64 p) ∧ (p = i ∨ p = j ∨ p = k) ∧ s' ≤ 100 ∧ Cn w' sb .i64 s' ∧ At w' g b cap n S T bl d ∧ Upd W sb w'
def PivP (W : World) (g b cap n : Nat) (S T : Nat → Int) (bl : Nat) (d : Nat → Nat) (lo hi : Nat) (e : Ending) (w' : World) : Prop :=
  ∃ (p : Nat) (h : Int), e = .returned (.tuple #[.int .i64 p, .int .i64 h]) ∧ lo ≤ p ∧ p < hi ∧ (h = 0 ∨ h = 1 ∨ h = 2) ∧ At w' g b cap n S T bl d ∧ Below W.heap.size W w'
section
variable {w w' : World} {g b cap n bl sb : Nat} {S T : Nat → Int} {d d' : Nat → Nat}
theorem At.side (h : At w g b cap n S T bl d) (u : Upd w sb w') (ng : sb ≠ g) (nb : sb ≠ b) (nl : sb ≠ bl) : At w' g b cap n S T bl d := ⟨h.ck.upd u ng nb, u.arr h.ln (Ne.symm nl), h.row, h.ng, h.nb⟩
set_option maxHeartbeats 2000000 in
theorem order2_any (A : At w g b cap n S T bl d) (hn : n ≤ 16) (s : Nat) (C : Cn w sb .i64 s) (hs : s ≤ 100) (ng : sb ≠ g) (nb : sb ≠ b) (nl : sb ≠ bl) (i j c : Nat) (hi : i < n) (hj : j < n) :
    Calls Try.prog 58 #[.slice (some ⟨bl, 0, none⟩) n c, .int .i64 i, .int .i64 j, .pointer (some ⟨sb, 0, none⟩), cmpV g] w
      (Ord2 w g b cap n S T bl d sb i j s) := by
  have HA := Lib.hid A
  have HC := Lib.hid C
  have hbl : bl < w.heap.size := A.ln.lt
  have x0 : w.cell? ⟨bl, i, none⟩ = some (.int .i64 (d i)) := A.ln.cell hi
  have x1 : w.cell? ⟨bl, j, none⟩ = some (.int .i64 (d j)) := A.ln.cell hj
  have CM := Lib.hid (fun (w' : World) (hw : Below w.heap.size w w') => A.cmp hn hj hi hw)
  have z0 : (0 : Int) ≤ i := by omega
  have z1 : (i : Int) < n := by omega
  have z2 : (0 : Int) ≤ j := by omega
  have z3 : (j : Int) < n := by omega
  have HN := Lib.hid (And.intro ng (And.intro nb nl))
  clear A C ng nb nl
  obtain ⟨v, hv⟩ : ∃ v, aheadV T (d j) (d i) = v := ⟨_, rfl⟩
  rw [hv] at CM
  clear hv
  go_enter Try.func58, Try.ntmps58
  go_wp2_with fail
  refine wp_region_more (by kernel_rfl) (by kernel_rfl) ?_
  repeat (go_big_quiet_step ((go_at_call 30; exact quiet_more ((CM.out _ (below_more _)).mono (fun _ _ h => h)))))
  refine wpQuiet_nil ?_
  rintro _ ⟨nq, rfl⟩
  have A3 := Lib.hid (HA.out.kept (below_more nq))
  have C3 := Lib.hid (HC.out.kept (below_more nq))
  have U3 := Lib.hid ((Upd.refl w sb).below (below_more nq))
  generalize moreOf w nq = w3 at A3 C3 U3 ⊢
  clear CM x1 x0 HA HC hbl
  by_cases hc : v < 0
  · have q : decide (v < 0) = true := decide_eq_true hc
    have y0 := C3.out.c
    have y1 := C3.out.f
    have ST : Hid (Cn (w3.setCell ⟨sb, 0, none⟩ (.int .i64 ((s : Int) + 1))) sb .i64 ((s + 1 : Nat) : Int)) := Lib.hid (by
      rw [show ((s + 1 : Nat) : Int) = (s : Int) + 1 by omega]; exact C3.out.set _)
    go_wp2_with fail
    go_ret2
    exact ⟨j, i, s + 1, rfl, Or.inr ⟨rfl, rfl⟩, by omega, ST.out, A3.out.side ((Upd.refl w3 sb).set _ _) HN.out.1 HN.out.2.1 HN.out.2.2, U3.out.set _ _⟩
  · have q : decide (v < 0) = false := decide_eq_false hc
    go_wp2_with fail
    go_ret2
    exact ⟨i, j, s, rfl, Or.inl ⟨rfl, rfl⟩, by omega, C3.out, A3.out, U3.out⟩
set_option maxHeartbeats 2000000 in
theorem median_any (A : At w g b cap n S T bl d) (hn : n ≤ 16) (s : Nat) (C : Cn w sb .i64 s) (hs : s ≤ 90) (ng : sb ≠ g) (nb : sb ≠ b) (nl : sb ≠ bl) (i j k c : Nat) (hi : i < n) (hj : j < n) (hk : k < n) :
    Calls Try.prog 57 #[.slice (some ⟨bl, 0, none⟩) n c, .int .i64 i, .int .i64 j, .int .i64 k, .pointer (some ⟨sb, 0, none⟩), cmpV g] w
      (MedP w g b cap n S T bl d sb i j k) := by
  have O1 := Lib.hid (order2_any A hn s C (by omega) ng nb nl i j c hi hj)
  have HN := Lib.hid (And.intro ng (And.intro nb nl))
  clear A C ng nb nl
  go_enter Try.func57, Try.ntmps57
  go_wp2_with fail
  refine O1.out.mono ?_
  rintro e w1 ⟨p1, q1, s1, rfl, hpq, hs1, C1, A1, U1⟩
  have hp1 : p1 < n := by omega
  have hq1 : q1 < n := by omega
  have O2 := Lib.hid (order2_any A1 hn s1 C1 (by omega) HN.out.1 HN.out.2.1 HN.out.2.2 q1 k c hq1 hk)
  have HU1 := Lib.hid U1
  clear C1 A1 U1 O1
  go_wp2_with fail
  refine O2.out.mono ?_
  rintro e w2 ⟨p2, q2, s2, rfl, hpq2, hs2, C2, A2, U2⟩
  have hp2 : p2 < n := by omega
  have hq2 : q2 < n := by omega
  have O3 := Lib.hid (order2_any A2 hn s2 C2 (by omega) HN.out.1 HN.out.2.1 HN.out.2.2 p1 p2 c hp1 hp2)
  have HU2 := Lib.hid (HU1.out.trans U2)
  clear C2 A2 U2 O2
  go_wp2_with fail
  refine O3.out.mono ?_
  rintro e w3 ⟨p3, q3, s3, rfl, hpq3, hs3, C3, A3, U3⟩
  have HC3 := Lib.hid C3
  have HA3 := Lib.hid A3
  have HU3 := Lib.hid (HU2.out.trans U3)
  clear C3 A3 U3 O3
  go_wp2_with fail
  go_ret
  exact ⟨q3, s3, rfl, by omega, by omega, HC3.out, HA3.out, HU3.out⟩
set_option maxHeartbeats 4000000 in
theorem pivot_any (A : At w g b cap n S T bl d) (hn : n ≤ 16) (lo hi c : Nat) (h1 : lo + 12 < hi) (h2 : hi ≤ n) :
    Calls Try.prog 46 #[.slice (some ⟨bl, 0, none⟩) n c, .int .i64 lo, .int .i64 hi, cmpV g] w
      (PivP w g b cap n S T bl d lo hi) := by
  have HA := Lib.hid A
  have gl : g < w.heap.size := World.block_lt_of_cell? _ _ A.ck.hd
  have bL : b < w.heap.size := A.ck.arr.lt
  have ll : bl < w.heap.size := A.ln.lt
  obtain ⟨L, hL⟩ : ∃ L : Nat, hi - lo = L := ⟨_, rfl⟩
  obtain ⟨q, hq⟩ : ∃ q : Nat, L / 4 = q := ⟨_, rfl⟩
  have hq3 : q = 3 ∨ q = 4 := by omega
  obtain ⟨i, hi'⟩ : ∃ i, lo + q = i := ⟨_, rfl⟩
  obtain ⟨j, hj'⟩ : ∃ i, lo + q * 2 = i := ⟨_, rfl⟩
  obtain ⟨k, hk'⟩ : ∃ i, lo + q * 3 = i := ⟨_, rfl⟩
  have e0 : (hi : Int) - lo = L := by omega
  have e4 : (L : Int) / 4 = q := by omega
  have ei : (lo : Int) + q = i := by omega
  have ej : (lo : Int) + q * 2 = j := by omega
  have ek : (lo : Int) + q * 3 = k := by omega
  have d3 : decide (8 ≤ (L : Int)) = true := decide_eq_true (by omega)
  have d4 : decide (50 ≤ (L : Int)) = false := decide_eq_false (by omega)
  have hin : i < n := by omega
  have hjn : j < n := by omega
  have hkn : k < n := by omega
  have HH := Lib.hid (show lo ≤ i ∧ i < hi ∧ lo ≤ j ∧ j < hi ∧ lo ≤ k ∧ k < hi by omega)
  have hl16 : L ≤ 16 := by omega
  have A1 := HA.out.kept (belowA (Below.refl w.heap.size w) (.cells #[.int .i64 0] 3))
  have C1 := Cn.new w 3 .i64 0
  have ME := Lib.hid (median_any A1 hn 0 C1 (by omega) (by omega) (by omega) (by omega) i j k c hin hjn hkn)
  have B1 := Lib.hid (belowA (Below.refl w.heap.size w) (.cells #[.int .i64 0] 3))
  clear A A1 C1 hL hq hi' hj' hk' gl bL ll hin hjn hkn
  go_enter Try.func46, Try.ntmps46
  go_wp2_with fail
  refine ME.out.mono ?_
  rintro e w1 ⟨p, s', rfl, hp, hs, C2, A2, U2⟩
  have HP := Lib.hid (show lo ≤ p ∧ p < hi by have := HH.out; omega)
  have A3 := Lib.hid A2
  have x1 := C2.c
  have B3 := Lib.hid (U2.out B1.out (Nat.le_refl _))
  obtain ⟨sb, hsb⟩ : ∃ sb, w.heap.size = sb := ⟨_, rfl⟩
  rw [hsb] at x1
  try rw [hsb]
  have HSB := Lib.hid hsb
  clear C2 A2 U2 ME B1 hsb HH
  by_cases c0 : s' = 0
  · subst c0
    go_wp2_with fail
    go_ret2
    exact ⟨p, 1, rfl, HP.out.1, HP.out.2, Or.inr (Or.inl rfl), A3.out, B3.out⟩
  by_cases c1 : s' = 12
  · subst c1
    go_wp2_with fail
    go_ret2
    exact ⟨p, 2, rfl, HP.out.1, HP.out.2, Or.inr (Or.inr rfl), A3.out, B3.out⟩
  · have q0 : ((s' : Int) == 0) = false := by rw [beq_eq_false_iff_ne]; omega
    have q1 : ((s' : Int) == 12) = false := by rw [beq_eq_false_iff_ne]; omega
    go_wp2_with fail
    go_ret2
    exact ⟨p, 0, rfl, HP.out.1, HP.out.2, Or.inl rfl, A3.out, B3.out⟩
/-- What partialInsertionSort says of a short row. -/
def ParP (W : World) (g b cap n : Nat) (S T : Nat → Int) (bl : Nat) (d : Nat → Nat) (lo hi : Nat) (e : Ending) (w' : World) : Prop :=
  ∃ r : Bool, e = .returned (.bool r) ∧ (r = true → Sd T lo hi d) ∧ At w' g b cap n S T bl d ∧ Below W.heap.size W w'
theorem Sd.next {T : Nat → Int} {a i : Nat} {d : Nat → Nat} (h : Sd T a i d) (hi : a < i) (hc : ahd T (d (i - 1)) (d i)) : Sd T a (i + 1) d := by
  intro p q h1 h2 h3
  by_cases c : q = i
  · subst c
    by_cases c2 : p = q - 1
    · rw [c2]; exact hc
    · exact ahd_trans T (h p (q - 1) h1 (by omega) (by omega)) hc
  · exact h p q h1 h2 (by omega)
set_option maxHeartbeats 4000000 in
theorem partial_any (A : At w g b cap n S T bl d) (hn : n ≤ 16) (lo hi c : Nat) (h1 : lo + 1 < hi) (h2 : hi ≤ n) :
    Calls Try.prog 48 #[.slice (some ⟨bl, 0, none⟩) n c, .int .i64 lo, .int .i64 hi, cmpV g] w (ParP w g b cap n S T bl d lo hi) := by
  have HA := Lib.hid A
  clear A
  go_enter Try.func48, Try.ntmps48
  try simp only [List.append_eq, List.cons_append, List.nil_append]
  go_wp2_with fail
  refine wp_loop_rounds 1 ?_
  rw [rounds_succ]
  go_wp2_with fail
  go_loopw [9] (fun x wr => ∃ i : Nat, x = .int .i64 i ∧ lo + 1 ≤ i ∧ i ≤ hi ∧ Sd T lo i d ∧ At wr g b cap n S T bl d ∧ Below w.heap.size w wr) (fun x _ => hi - (intOf x).toNat)
  case atStart => exact ⟨lo + 1, by go_num, by omega, by omega, fun p q _ _ _ => by omega, HA.out, Below.refl _ _⟩
  case round =>
    obtain ⟨i, rfl, hi1, hi2, sd, at1, b1⟩ := hrel
    have SD := Lib.hid sd
    have A1 := Lib.hid at1
    have B1 := Lib.hid b1
    clear sd at1 b1
    by_cases hlt : i < hi
    · obtain ⟨k, hk⟩ : ∃ k, i = k + 1 := ⟨i - 1, by omega⟩
      have e1 : (i : Int) - 1 = (k : Int) := by omega
      have hz : (i : Int) < hi := by omega
      have z2 : (i : Int) < n := by omega
      have z3 : (k : Int) < n := by omega
      have z4 : (0 : Int) ≤ k := by omega
      have z5 : (0 : Int) ≤ i := by omega
      have x1 : wr.cell? ⟨bl, i, none⟩ = some (.int .i64 (d i)) := A1.out.ln.cell (by omega)
      have x0 : wr.cell? ⟨bl, k, none⟩ = some (.int .i64 (d k)) := A1.out.ln.cell (by omega)
      have CM := Lib.hid (fun (w' : World) (hw : Below wr.heap.size wr w') => A1.out.cmp hn (show i < n by omega) (show k < n by omega) hw)
      have hbl : bl < wr.heap.size := A1.out.ln.lt
      have AV := aheadV_lt T (d i) (d k)
      have NE : Hid (d k ≠ d i) := Lib.hid (fun e => by have := A1.out.row.inj _ _ (by omega) (by omega) e; omega)
      obtain ⟨v, hv⟩ : ∃ v, aheadV T (d i) (d k) = v := ⟨_, rfl⟩
      rw [hv] at CM AV
      have HAV := Lib.hid AV
      clear AV
      have HK := Lib.hid hk
      have hl50 : (hi : Int) - lo < 50 := by omega
      clear hv hk
      by_cases hc : v < 0
      · have q : decide (v < 0) = true := decide_eq_true hc
        have q2 : ((i : Int) == hi) = false := by rw [beq_eq_false_iff_ne]; omega
        have d50 : decide ((hi : Int) - lo < 50) = true := decide_eq_true hl50
        go_wp2_with fail
        refine wp_region_more (by kernel_rfl) (by kernel_rfl) ?_
        repeat (go_big_quiet_step ((go_at_call 30; exact quiet_more ((CM.out _ (below_more _)).mono (fun _ _ h => h)))))
        refine wpQuiet_nil ?_
        rintro _ ⟨nq, rfl⟩
        have A3 := Lib.hid (A1.out.kept (below_more nq))
        have B3 := Lib.hid (B1.out.trans ((below_more nq).mono B1.out.size))
        generalize moreOf wr nq = w3 at A3 B3 ⊢
        clear CM x1 x0 A1 B1 hbl
        go_wp2_with fail
        go_ret
        exact ⟨false, rfl, (fun h => absurd h (by decide) : false = true → Sd T lo hi d), A3.out, B3.out⟩
      · have q : decide (v < 0) = false := decide_eq_false hc
        have NX : Hid (Sd T lo (i + 1) d) := Lib.hid (SD.out.next (by omega) (by
          have := HK.out
          rw [show i - 1 = k by omega]
          exact (ahd_total T NE.out).resolve_right (by have h := HAV.out.symm.trans q; exact of_decide_eq_false h)))
        go_wp2_with fail
        refine wp_region_more (by kernel_rfl) (by kernel_rfl) ?_
        repeat (go_big_quiet_step ((go_at_call 30; exact quiet_more ((CM.out _ (below_more _)).mono (fun _ _ h => h)))))
        refine wpQuiet_nil ?_
        rintro _ ⟨nq, rfl⟩
        have A3 := Lib.hid (A1.out.kept (below_more nq))
        have B3 := Lib.hid (B1.out.trans ((below_more nq).mono B1.out.size))
        generalize moreOf wr nq = w3 at A3 B3 ⊢
        clear CM x1 x0 A1 B1 hbl
        go_wp2_with fail
        go_roundw
        case rel => exact ⟨i + 1, by go_num, by omega, by omega, NX.out, A3.out, B3.out⟩
        case measure => simp [intOf]; omega
    · have hih : i = hi := by omega
      subst hih
      have hz : decide ((i : Int) < i) = false := decide_eq_false (by omega)
      have hz2 : ¬ (i : Int) < i := by omega
      go_wp2_with fail
      refine wp_region_more (by kernel_rfl) (by kernel_rfl) ?_
      repeat (go_big_quiet_step (fail))
      refine wpQuiet_nil ?_
      rintro _ ⟨nq, rfl⟩
      have A3 := Lib.hid (A1.out.kept (below_more nq))
      have B3 := Lib.hid (B1.out.trans ((below_more nq).mono B1.out.size))
      generalize moreOf wr nq = w3 at A3 B3 ⊢
      clear A1 B1
      go_wp2_with fail
      go_ret
      exact ⟨true, rfl, fun _ => SD.out, A3.out, B3.out⟩
/-- What reverseRange and breakPatterns leave. -/
def PmP (W : World) (g b cap n : Nat) (S T : Nat → Int) (bl : Nat) (d : Nat → Nat) (lo hi : Nat) (e : Ending) (w' : World) : Prop :=
  e = .returned (.tuple #[]) ∧ ∃ d', Pm lo hi d d' ∧ At w' g b cap n S T bl d' ∧ Upd W bl w'
set_option maxHeartbeats 4000000 in
theorem reverse_any (A : At w g b cap n S T bl d) (hn : n ≤ 16) (lo hi c : Nat) (h1 : lo < hi) (h2 : hi ≤ n) :
    Calls Try.prog 47 #[.slice (some ⟨bl, 0, none⟩) n c, .int .i64 lo, .int .i64 hi, cmpV g] w (PmP w g b cap n S T bl d lo hi) := by
  have HA := Lib.hid A
  clear A
  go_enter Try.func47, Try.ntmps47
  go_wp2_with fail
  go_loopw [8, 9] (fun x y wr => ∃ (i j : Nat) (d' : Nat → Nat), x = .int .i64 i ∧ y = .int .i64 j ∧ lo ≤ i ∧ i ≤ hi ∧ j < hi ∧ Pm lo hi d d' ∧ At wr g b cap n S T bl d' ∧ Upd w bl wr) (fun x _ _ => hi - (intOf x).toNat)
  case atStart => exact ⟨lo, hi - 1, d, rfl, by go_num, by omega, by omega, by omega, .refl, HA.out, Upd.refl _ _⟩
  case round =>
    obtain ⟨i, j, d1, rfl, rfl, hi1, hi2, hj, pm, at1, u1⟩ := hrel
    have PM := Lib.hid pm
    have A3 := Lib.hid at1
    have U3 := Lib.hid u1
    clear pm at1 u1
    by_cases hlt : i < j
    · have hz : (i : Int) < j := by omega
      have hbl : bl < wr.heap.size := A3.out.ln.lt
      have z1 : (i : Int) < n := by omega
      have z2 : (j : Int) < n := by omega
      have z3 : (0 : Int) ≤ i := by omega
      have z4 : (0 : Int) ≤ j := by omega
      have y1 : wr.cell? ⟨bl, i, none⟩ = some (.int .i64 (d1 i)) := A3.out.ln.cell (by omega)
      have y0 : wr.cell? ⟨bl, j, none⟩ = some (.int .i64 (d1 j)) := A3.out.ln.cell (by omega)
      have g1 := A3.out.ln.frozen i
      have g0 := A3.out.ln.frozen j
      have y0' : (wr.setCell ⟨bl, i, none⟩ (.int .i64 (d1 j))).cell? ⟨bl, j, none⟩ = some (.int .i64 (d1 j)) := keepSetO y0 (by omega)
      have SW : Hid (Ln ((wr.setCell ⟨bl, i, none⟩ (.int .i64 (d1 j))).setCell ⟨bl, j, none⟩ (.int .i64 (d1 i))) bl n (swp d1 i j)) := Lib.hid (A3.out.ln.swap (by omega) (by omega))
      have NR := Lib.hid (A3.out.row.sw (i := i) (j := j) (by omega) (by omega))
      have NP := Lib.hid (PM.out.sw (i := i) (j := j) (by omega) (by omega) (by omega) (by omega))
      have mixed := mixed
      go_wp2_with fail
      go_big_region_o
      have A4 : Hid (At ((wr.setCell ⟨bl, i, none⟩ (.int .i64 (d1 j))).setCell ⟨bl, j, none⟩ (.int .i64 (d1 i))).drew g b cap n S T bl (swp d1 i j)) := Lib.hid (A3.out.upd (((Upd.refl wr bl).set _ _).set _ _).drew SW.out NR.out)
      have U4 : Hid (Upd w bl ((wr.setCell ⟨bl, i, none⟩ (.int .i64 (d1 j))).setCell ⟨bl, j, none⟩ (.int .i64 (d1 i))).drew) := Lib.hid ((U3.out.set _ _).set _ _).drew
      generalize ((wr.setCell ⟨bl, i, none⟩ (.int .i64 (d1 j))).setCell ⟨bl, j, none⟩ (.int .i64 (d1 i))).drew = w4 at A4 U4 ⊢
      clear y1 y0 g1 g0 y0' SW A3 U3 hbl mixed
      go_wp2_with fail
      go_roundw
      case rel => exact ⟨i + 1, j - 1, swp d1 i j, by go_num, by go_num, by omega, by omega, by omega, NP.out, A4.out, U4.out⟩
      case measure => simp [intOf]; omega
    · have hz : decide ((i : Int) < j) = false := decide_eq_false (by omega)
      go_wp2_with fail
      go_end0
      exact ⟨rfl, d1, PM.out, A3.out, U3.out⟩
end
end Go.Proofs.Ytfigepnpegnhkaa
