/- The walk of Room. -/
import Derived.Test.YtfigepnpegnhkaaClkL
namespace Go.Proofs.Ytfigepnpegnhkaa
open Go Go.RowKit Go.Shelf
attribute [local go_sem] Oper.semAt_some
set_option linter.unusedVariables false
set_option linter.unusedSimpArgs false
set_option maxRecDepth 100000
theorem putObj_cell (W : World) (l : Nat) (o : Obj) {p : Addr} (h : p.block ≠ l) : (W.putObj l o).cell? p = W.cell? p := World.cell?_of_block (World.putObj_heap_other h)
/-- The cells of Room's own. -/
structure Rm (W0 : World) (B0 B1 B2 B3 B4 : Nat) (g b cap n : Nat) (S T : Nat → Int) (i : Nat) (w : World) : Prop where
  ck : Ck w g b cap n S T
  c0 : w.cell? ⟨B0, 0, none⟩ = some (.pointer (some ⟨g, 0, none⟩))
  c1 : w.cell? ⟨B1, 0, none⟩ = some (.int .i64 i)
  c2 : w.cell? ⟨B2, 0, none⟩ = some (.int .i64 0)
  c3 : w.cell? ⟨B3, 0, none⟩ = some (.int .i64 0)
  c4 : w.cell? ⟨B4, 0, none⟩ = some (.pointer (some ⟨b, i * 2, none⟩))
  f2 : w.frozen? ⟨B2, 0, none⟩ = false
  f3 : w.frozen? ⟨B3, 0, none⟩ = false
  bel : Below W0.heap.size W0 w
theorem Rm.kept {W0 w w' : World} {B0 B1 B2 B3 B4 g b cap n i : Nat} {S T : Nat → Int} (h : Rm W0 B0 B1 B2 B3 B4 g b cap n S T i w) (k : Below w.heap.size w w') : Rm W0 B0 B1 B2 B3 B4 g b cap n S T i w' :=
  ⟨h.ck.kept k, keepC k h.c0, keepC k h.c1, keepC k h.c2, keepC k h.c3, keepC k h.c4, (k.frozen (p := ⟨B2, 0, none⟩) (World.block_lt_of_cell? _ _ h.c2)).trans h.f2, (k.frozen (p := ⟨B3, 0, none⟩) (World.block_lt_of_cell? _ _ h.c3)).trans h.f3, h.bel.trans (k.mono h.bel.size)⟩
theorem Rm.via {W0 w3 w w' : World} {B0 B1 B2 B3 B4 g b cap n i : Nat} {S T : Nat → Int} (h3 : Rm W0 B0 B1 B2 B3 B4 g b cap n S T i w3) (h : Rm W0 B0 B1 B2 B3 B4 g b cap n S T i w) (k : Below w3.heap.size w w') : Rm W0 B0 B1 B2 B3 B4 g b cap n S T i w' := by
  have ce : ∀ {a : Addr} {v u : Value}, w3.cell? a = some u → w.cell? a = some v → w'.cell? a = some v := fun h1 h2 => (k.cell (World.block_lt_of_cell? _ _ h1)).trans h2
  have fe : ∀ {a : Addr} {u : Value}, w3.cell? a = some u → w.frozen? a = false → w'.frozen? a = false := fun h1 h2 => (k.frozen (World.block_lt_of_cell? _ _ h1)).trans h2
  exact ⟨⟨ce h3.ck.hd h.ck.hd, h.ck.ne, h.ck.arr.below k h3.ck.arr.lt⟩, ce h3.c0 h.c0, ce h3.c1 h.c1, ce h3.c2 h.c2, ce h3.c3 h.c3, ce h3.c4 h.c4, fe h3.c2 h.f2, fe h3.c3 h.f3, h.bel.trans (k.mono h3.bel.size)⟩
/-- Room's answer lies in its cells. -/
def RmX (W0 : World) (B2 B3 n : Nat) (S T : Nat → Int) (i : Nat) (w : World) : Prop := ∃ r, IsRoom n S T i r ∧ w.cell? ⟨B2, 0, none⟩ = some (.int .i64 r) ∧ w.cell? ⟨B3, 0, none⟩ = some (.int .i64 0) ∧ Below W0.heap.size W0 w
theorem RmX.kept {W0 w w' : World} {B2 B3 n i : Nat} {S T : Nat → Int} (h : RmX W0 B2 B3 n S T i w) (k : Below w.heap.size w w') : RmX W0 B2 B3 n S T i w' := by
  obtain ⟨r, h1, h2, h3, h4⟩ := h
  exact ⟨r, h1, keepC k h2, keepC k h3, h4.trans (k.mono h4.size)⟩
theorem RmX.via {W0 w3 w w' : World} {B0 B1 B2 B3 B4 g b cap n i : Nat} {S T : Nat → Int} (h : RmX W0 B2 B3 n S T i w) (h3 : Rm W0 B0 B1 B2 B3 B4 g b cap n S T i w3) (k : Below w3.heap.size w w') : RmX W0 B2 B3 n S T i w' := by
  obtain ⟨r, h1, h2, h4, h5⟩ := h
  exact ⟨r, h1, (k.cell (World.block_lt_of_cell? _ _ h3.c2)).trans h2, (k.cell (World.block_lt_of_cell? _ _ h3.c3)).trans h4, h5.trans (k.mono h3.bel.size)⟩
theorem Rm.out {W0 w : World} {B0 B1 B2 B3 B4 g b cap n i : Nat} {S T : Nat → Int} (h : Rm W0 B0 B1 B2 B3 B4 g b cap n S T i w) (h2 : W0.heap.size ≤ B2) (h3 : W0.heap.size ≤ B3) (hne : B2 ≠ B3) {r : Int} (hr : IsRoom n S T i r) :
    RmX W0 B2 B3 n S T i ((w.setCell ⟨B2, 0, none⟩ (.int .i64 r)).setCell ⟨B3, 0, none⟩ (.int .i64 0)) :=
  ⟨r, hr, keepSet (World.cell?_setCell_same' _ _ _ (by rw [h.c2]; rfl)) hne, World.cell?_setCell_same' _ _ _ (by rw [keepSet h.c3 (Ne.symm hne)]; rfl), (h.bel.setCell h2 _).setCell h3 _⟩
section
variable {w w' : World} {g b cap n bl : Nat} {S T : Nat → Int} {d : Nat → Nat}
set_option maxHeartbeats 8000000 in
theorem room_any (C : Ck w g b cap n S T) (hn : n ≤ 16) (i : Nat) (hi : i < n) (sc : ∀ j, j < n → 1 ≤ S j ∧ S j ≤ 16777216) (tm : ∀ j, j < n → 0 ≤ T j ∧ T j ≤ 1152921504606846976) :
    Calls Try.prog 13 #[.pointer (some ⟨g, 0, none⟩), .int .i64 i] w (RoomP w n S T i) := by
  have CK := Lib.hid C
  have SC := Lib.hid sc
  have TM := Lib.hid tm
  have h1 : 1 ≤ n := by omega
  clear C sc tm
  refine callsIn_wide.1 (?_ : CallsIn Fence.wide 0 _ _ _ _ _)
  refine callsIn_of_wp_marks Try.func13 rfl trivial ?_ rfl
  simp only [Try.ntmps13, List.size_toArray, List.length_cons, List.length_nil, Nat.reduceAdd, Nat.reduceSub, Array.replicate_succ, Array.replicate_zero, List.push_toArray, List.append_toArray, List.nil_append, List.cons_append]
  gi_wp2
  obtain ⟨W1, hW⟩ : ∃ W1, W1 = (((w.alloc (.cells #[.pointer (some ⟨g, 0, none⟩)] 24)).alloc (.cells #[.int .i64 i] 3)).alloc (.cells #[.int .i64 0] 3)).alloc (.cells #[.int .i64 0] 25) := ⟨_, rfl⟩
  obtain ⟨B0, hB⟩ : ∃ B, B = w.heap.size := ⟨_, rfl⟩
  rw [← hW, ← hB]
  obtain ⟨B1, hB1⟩ : ∃ x, x = B0 + 1 := ⟨_, rfl⟩
  rw [← hB1]
  obtain ⟨B2, hB2⟩ : ∃ x, x = B1 + 1 := ⟨_, rfl⟩
  rw [← hB2]
  obtain ⟨B3, hB3⟩ : ∃ x, x = B2 + 1 := ⟨_, rfl⟩
  rw [← hB3]
  have x0 : W1.cell? ⟨B0, 0, none⟩ = some (.pointer (some ⟨g, 0, none⟩)) := by rw [hW, hB]; simp [go_sem]
  have x1 : W1.cell? ⟨B1, 0, none⟩ = some (.int .i64 i) := by rw [hW, hB1, hB]; simp [go_sem]
  have x2 : W1.cell? ⟨B2, 0, none⟩ = some (.int .i64 0) := by rw [hW, hB2, hB1, hB]; simp [go_sem]
  have x3 : W1.cell? ⟨B3, 0, none⟩ = some (.int .i64 0) := by rw [hW, hB3, hB2, hB1, hB]; simp [go_sem]
  have y2 : W1.frozen? ⟨B2, 0, none⟩ = false := by rw [hW, hB2, hB1, hB]; simp [go_sem]
  have y3 : W1.frozen? ⟨B3, 0, none⟩ = false := by rw [hW, hB3, hB2, hB1, hB]; simp [go_sem]
  have bW1 : Below w.heap.size w W1 := by rw [hW]; exact belowA (belowA (belowA (belowA (Below.refl _ _) _) _) _) _
  have HBB := Lib.hid (show w.heap.size ≤ B2 ∧ w.heap.size ≤ B3 ∧ B2 ≠ B3 by omega)
  have HW1 := Lib.hid bW1
  have CK1 := Lib.hid (CK.out.kept bW1)
  have FI := Lib.hid (find_any CK1.out i hi hn)
  have hsz1 : W1.heap.size = B3 + 1 := by rw [hW, hB3, hB2, hB1, hB]; simp
  have hlow : B2 < W1.heap.size ∧ B3 < W1.heap.size := by omega
  have HLO := Lib.hid hlow
  clear hW hB hB1 hB2 hB3 bW1 hsz1 hlow
  refine ⟨trivial, rfl, ?_⟩
  refine (callsIn_wide.2 FI.out).mono ?_
  rintro e w1 ⟨rfl, b1⟩
  have z0 := keepC b1 x0
  have z1 := keepC b1 x1
  have z2 := keepC b1 x2
  have z3 := keepC b1 x3
  have u2 : w1.frozen? ⟨B2, 0, none⟩ = false := (b1.frozen (p := ⟨B2, 0, none⟩) HLO.out.1).trans y2
  have u3 : w1.frozen? ⟨B3, 0, none⟩ = false := (b1.frozen (p := ⟨B3, 0, none⟩) HLO.out.2).trans y3
  have HWW := Lib.hid (HW1.out.trans (b1.mono HW1.out.size))
  have CK2 := Lib.hid (CK1.out.kept b1)
  clear b1 x0 x1 x2 x3 y2 y3 FI CK CK1 HW1 HLO
  have q0 := World.block_lt_of_cell? _ _ z0
  simp only at q0
  gi_wp2
  obtain ⟨W2, hW2⟩ : ∃ W2, W2 = w1.alloc (.cells #[.pointer (some ⟨b, i * 2, none⟩)] 63) := ⟨_, rfl⟩
  obtain ⟨B4, hB4⟩ : ∃ B, B = w1.heap.size := ⟨_, rfl⟩
  have R2 : Hid (Rm w B0 B1 B2 B3 B4 g b cap n S T i W2) := Lib.hid (by
    have bb : Below w1.heap.size w1 W2 := by rw [hW2]; exact belowA (Below.refl _ _) _
    exact ⟨CK2.out.kept bb, keepC bb z0, keepC bb z1, keepC bb z2, keepC bb z3, by rw [hW2, hB4]; simp [go_sem], (bb.frozen (p := ⟨B2, 0, none⟩) (World.block_lt_of_cell? _ _ z2)).trans u2, (bb.frozen (p := ⟨B3, 0, none⟩) (World.block_lt_of_cell? _ _ z3)).trans u3, HWW.out.trans (bb.mono HWW.out.size)⟩)
  rw [← hW2, ← hB4]
  clear hW2 hB4 z0 z1 z2 z3 u2 u3 HWW CK2 q0
  refine ⟨trivial, rfl, ?_⟩
  refine (callsIn_wide.2 (order_fn W2 _)).mono ?_
  rintro e w3 ⟨rfl, hw3⟩
  obtain ⟨Bx, hBx⟩ : ∃ B, B = W2.heap.size := ⟨_, rfl⟩
  have R3 : Hid (Rm w B0 B1 B2 B3 B4 g b cap n S T i w3) := Lib.hid (by rw [hw3]; exact R2.out.kept (belowA (Below.refl _ _) _))
  have xx : w3.cell? ⟨Bx, 0, none⟩ = some (.pointer (some ⟨g, 0, none⟩)) := by rw [hw3, hBx]; simp [go_sem]
  rw [← hBx]
  have XX := Lib.hid xx
  clear hw3 hBx R2 xx
  gi_wp2
  generalize hA : Act.mk _ _ = A
  refine wp_rangeB (gf := 33) (lb := #[.pointer (some ⟨Bx, 0, none⟩)]) (by rw [← hA]; rfl) (enters_of Try.func33 (by kernel_rfl) rfl)
    (n0 := w.heap.size) (B0 := w3.heap.size) (Nat.le_refl _)
    (order_in w3 Bx XX.out R3.out.ck h1 hn w.heap.size w3.heap.size) (Below.refl _ _) R3.out.bel.size (fun _ => rfl)
    (fun pre w' => Rm w B0 B1 B2 B3 B4 g b cap n S T i w' ∧ ∀ x ∈ pre, x = i) (fun c pre w' => c = .ret ∧ RmX w B2 B3 n S T i w')
    ?hI ?hIx ?h0
    (fun x act w' => act = { tmps := (A.tmps.setIfInBounds 22 (.int .i64 x)).setIfInBounds 8 (.int .i64 x), defers := [] })
    ?hP ?assign ?body ?done ?stop
  case hI => rintro pre C D ⟨p1, p2⟩ hb; exact ⟨R3.out.via p1 hb, p2⟩
  case hIx => rintro c pre C D ⟨rfl, h⟩ hb; exact ⟨rfl, h.via R3.out hb⟩
  case h0 => exact ⟨R3.out, by simp⟩
  case hP => rintro x act C D rfl k; rfl
  case assign =>
    intro a W6 K hsz hK
    subst hA
    have HK := Lib.hid hK
    clear hK
    gi_wp2
    refine HK.out _ _ ?_ (Below.refl _ _)
    rfl
  case body =>
    rintro pre x act W6 rfl ⟨p1, p2⟩ hok hsz
    subst hA
    have P1 := Lib.hid p1
    have P2 := Lib.hid p2
    have OK := Lib.hid hok
    have c0 := p1.c0
    have c1 := p1.c1
    clear p1 p2 hok
    simp only [List.setIfInBounds_toArray, List.set_cons_succ, List.set_cons_zero]
    by_cases hxi : x = i
    · have q : ((x : Int) == i) = true := by rw [beq_iff_eq]; omega
      have HXI := Lib.hid hxi
      clear hxi
      gi_wp2
      exact ⟨KB.refl _ _ _, P1.out, fun y hy => by
        rcases List.mem_append.1 hy with h | h
        · exact P2.out y h
        · rw [List.mem_singleton] at h; rw [h]; exact HXI.out⟩
    · have q : ((x : Int) == i) = false := by rw [beq_eq_false_iff_ne]; omega
      have LST : Hid (x < n ∧ ∀ j, j < n → j ≠ i → j ≠ x → ahd T x j) := Lib.hid (by
        obtain ⟨d, ⟨rw_, sd⟩, hl, hx, hpre⟩ := OK.out
        refine ⟨by rw [hx]; exact rw_.lt _ hl, fun j hj h1 h2 => ?_⟩
        obtain ⟨m, hm, rfl⟩ := rw_.onto j hj
        have e : ∀ m', m' < pre.length → d m' = i := fun m' h => P2.out (d m') (by rw [hpre]; exact List.mem_map.2 ⟨m', List.mem_range.2 (by simpa using h), rfl⟩)
        have : pre.length < m := by
          by_cases c1 : m < pre.length
          · exact absurd (e m c1) h1
          · by_cases c2 : m = pre.length
            · exact absurd (by rw [c2, hx]) h2
            · omega
        rw [hx]; exact sd _ _ (by omega) this hm)
      have HXI := Lib.hid hxi
      have hxn : x < n := LST.out.1
      have z1 : (x : Int) < n := by omega
      have z0 : (0 : Int) ≤ x := by omega
      have k0 := P1.out.ck.hd
      have k1 := P1.out.ck.tm hxn
      have k2 := P1.out.ck.tm hi
      have k3 := P1.out.ck.sc hi
      have k4 := P1.out.c4
      have tx := TM.out x hxn
      have ti := TM.out i hi
      have si := SC.out i hi
      clear hxi OK
      gi_wp2
      have l0 := World.block_lt_of_cell? _ _ k0
      have l1 := World.block_lt_of_cell? _ _ k1
      have l4 := World.block_lt_of_cell? _ _ k4
      have l5 := World.block_lt_of_cell? _ _ c0
      simp only at l0 l1 l4 l5
      obtain ⟨tX, htX⟩ : ∃ v, T x = v := ⟨_, rfl⟩
      obtain ⟨tI, htI⟩ : ∃ v, T i = v := ⟨_, rfl⟩
      obtain ⟨s, hs⟩ : ∃ v, S i = v := ⟨_, rfl⟩
      rw [htX] at k1 tx
      rw [htI] at k2 ti
      rw [hs] at k3 si
      have HTX := Lib.hid htX
      have HTI := Lib.hid htI
      have HS := Lib.hid hs
      obtain ⟨tx0, tx1⟩ := tx
      obtain ⟨ti0, ti1⟩ := ti
      obtain ⟨si0, si1⟩ := si
      clear htX htI hs
      have BL : Hid (B2 < w3.heap.size ∧ B3 < w3.heap.size) := Lib.hid ⟨World.block_lt_of_cell? _ _ R3.out.c2, World.block_lt_of_cell? _ _ R3.out.c3⟩
      refine wpIn_region_round (by kernel_rfl) (by kernel_rfl) (by kernel_rfl) ?_
      repeat (gi_big_quiet_step (fail))
      refine wpQuietIn_nil ?_
      rintro _ ⟨y, rfl⟩
      have P7 := Lib.hid (P1.out.kept (below_more y))
      have K7 : Hid (KB w.heap.size w3.heap.size W6 (moreOf W6 y)) := Lib.hid (KB.ofBelow _ (below_more y) P1.out.bel.size)
      generalize moreOf W6 y = W7 at P7 K7 ⊢
      clear k0 k1 k2 k3 k4 c0 c1 l0 l1 l4 l5 P1
      have v0 := P7.out.c0
      have v1 := P7.out.c1
      have v2 := P7.out.c2
      have v3 := P7.out.c3
      have v4 := P7.out.c4
      have f2 := P7.out.f2
      have f3 := P7.out.f3
      have vs := P7.out.ck.sc hi
      rw [HS.out] at vs
      obtain ⟨a, ha⟩ : ∃ a, tX - tI = a := ⟨_, rfl⟩
      have HA7 := Lib.hid ha
      rw [ha]
      have ha0 : -1152921504606846976 ≤ a := by omega
      have ha1 : a ≤ 1152921504606846976 := by omega
      have hai : a = tX - tI := ha.symm
      have HAI := Lib.hid hai
      clear hai ha
      by_cases a1 : a < 0
      · have d1 : decide (a < 0) = true := decide_eq_true a1
        have := HAI.out
        have RZ : Hid (IsRoom n S T i 0) := Lib.hid (room_zero hxn HXI.out (by rw [HTX.out, HTI.out]; omega))
        have RX := Lib.hid (P7.out.out HBB.out.1 HBB.out.2.1 HBB.out.2.2 RZ.out)
        have r3 : (W7.setCell ⟨B2, 0, none⟩ (.int .i64 0)).cell? ⟨B3, 0, none⟩ = some (.int .i64 0) := keepSet v3 (Ne.symm HBB.out.2.2)
        clear this
        try clear a3
        gi_wp2
        exact ⟨(K7.out.setCell (p := ⟨B2, 0, none⟩) HBB.out.1 BL.out.1 _).setCell (p := ⟨B3, 0, none⟩) HBB.out.2.1 BL.out.2 _, rfl, RX.out⟩
      · have d1 : decide (a < 0) = false := decide_eq_false a1
        by_cases a2 : a = 0 ∧ x < i
        · have d2 : (a == 0) = true := by rw [beq_iff_eq]; exact a2.1
          have d3 : decide ((x : Int) < i) = true := decide_eq_true (by omega)
          have d3' : decide (x < i) = true := decide_eq_true a2.2
          have := HAI.out
          have a3 := a2.1
          have a4 := a2.2
          clear a2
          have RZ : Hid (IsRoom n S T i 0) := Lib.hid (room_zero hxn HXI.out (by rw [HTX.out, HTI.out]; omega))
          have RX := Lib.hid (P7.out.out HBB.out.1 HBB.out.2.1 HBB.out.2.2 RZ.out)
          have r3 : (W7.setCell ⟨B2, 0, none⟩ (.int .i64 0)).cell? ⟨B3, 0, none⟩ = some (.int .i64 0) := keepSet v3 (Ne.symm HBB.out.2.2)
          clear this
          try clear a3
          gi_wp2
          exact ⟨(K7.out.setCell (p := ⟨B2, 0, none⟩) HBB.out.1 BL.out.1 _).setCell (p := ⟨B3, 0, none⟩) HBB.out.2.1 BL.out.2 _, rfl, RX.out⟩
        · have hs0 : s ≠ 0 := by omega
          have hsz : (s == 0) = false := by rw [beq_eq_false_iff_ne]; exact hs0
          obtain ⟨q, hq⟩ : ∃ q, a / s = q := ⟨_, rfl⟩
          obtain ⟨m, hm⟩ : ∃ m, a % s = m := ⟨_, rfl⟩
          have hq0 : 0 ≤ q := by rw [← hq]; exact Int.ediv_nonneg (by omega) (by omega)
          have hq1 : q ≤ a := by rw [← hq]; exact Int.ediv_le_self _ (by omega)
          have HQ := Lib.hid hq
          have HM := Lib.hid hm
          have tq : Int.tdiv a s = q := by rw [Int.tdiv_eq_ediv_of_nonneg (by omega)]; exact hq
          have tm' : Int.tmod a s = m := by rw [Int.tmod_eq_emod_of_nonneg (by omega)]; exact hm
          have wq : IntKind.i64.wrap q = q := by rw [IntKind.wrap_i64]; omega
          have wq1 : IntKind.i64.wrap (q + 1) = q + 1 := by rw [IntKind.wrap_i64]; omega
          have hh := HAI.out
          by_cases a3 : a = 0
          · have d2 : (a == 0) = true := by rw [beq_iff_eq]; exact a3
            have hxi2 : i < x := by have := HXI.out; omega
            have d3 : decide ((x : Int) < i) = false := decide_eq_false (by omega)
            have d4 : decide ((i : Int) < x) = true := decide_eq_true (by omega)
            have d3' : decide (x < i) = false := decide_eq_false (by omega)
            have d4' : decide (i < x) = true := decide_eq_true (by omega)
            have RZ : Hid (IsRoom n S T i (min (q + 1) 1073741824)) := Lib.hid (room_some hxn HXI.out (by rw [HS.out]; omega) LST.out.2 (by rw [HTX.out, HTI.out]; omega) q m (by rw [HTX.out, HTI.out, HS.out, HA7.out]; exact HQ.out) (by rw [HTX.out, HTI.out, HS.out, HA7.out]; exact HM.out) _ (by first | (rw [if_pos (by omega)]) | (rw [if_neg (by omega)])))
            obtain ⟨rr, hrr⟩ : ∃ rr, min (q + 1) 1073741824 = rr := ⟨_, rfl⟩
            rw [hrr] at RZ
            have RX := Lib.hid (P7.out.out HBB.out.1 HBB.out.2.1 HBB.out.2.2 RZ.out)
            have r3 : (W7.setCell ⟨B2, 0, none⟩ (.int .i64 rr)).cell? ⟨B3, 0, none⟩ = some (.int .i64 0) := keepSet v3 (Ne.symm HBB.out.2.2)
            clear RZ hh
            try clear a3
            try clear a4
            try clear a5
            try clear a2
            gi_wp2
            exact ⟨(K7.out.setCell (p := ⟨B2, 0, none⟩) HBB.out.1 BL.out.1 _).setCell (p := ⟨B3, 0, none⟩) HBB.out.2.1 BL.out.2 _, rfl, RX.out⟩
          · have d2 : (a == 0) = false := by rw [beq_eq_false_iff_ne]; exact a3
            by_cases a4 : i < x
            · have d3 : decide ((x : Int) < i) = false := decide_eq_false (by omega)
              have d4 : decide ((i : Int) < x) = true := decide_eq_true (by omega)
              have d3' : decide (x < i) = false := decide_eq_false (by omega)
              have d4' : decide (i < x) = true := decide_eq_true (by omega)
              have RZ : Hid (IsRoom n S T i (min (q + 1) 1073741824)) := Lib.hid (room_some hxn HXI.out (by rw [HS.out]; omega) LST.out.2 (by rw [HTX.out, HTI.out]; omega) q m (by rw [HTX.out, HTI.out, HS.out, HA7.out]; exact HQ.out) (by rw [HTX.out, HTI.out, HS.out, HA7.out]; exact HM.out) _ (by first | (rw [if_pos (by omega)]) | (rw [if_neg (by omega)])))
              obtain ⟨rr, hrr⟩ : ∃ rr, min (q + 1) 1073741824 = rr := ⟨_, rfl⟩
              rw [hrr] at RZ
              have RX := Lib.hid (P7.out.out HBB.out.1 HBB.out.2.1 HBB.out.2.2 RZ.out)
              have r3 : (W7.setCell ⟨B2, 0, none⟩ (.int .i64 rr)).cell? ⟨B3, 0, none⟩ = some (.int .i64 0) := keepSet v3 (Ne.symm HBB.out.2.2)
              clear RZ hh
              try clear a3
              try clear a4
              try clear a5
              try clear a2
              gi_wp2
              exact ⟨(K7.out.setCell (p := ⟨B2, 0, none⟩) HBB.out.1 BL.out.1 _).setCell (p := ⟨B3, 0, none⟩) HBB.out.2.1 BL.out.2 _, rfl, RX.out⟩
            · have d4 : decide ((i : Int) < x) = false := decide_eq_false (by omega)
              have d4' : decide (i < x) = false := decide_eq_false (by omega)
              by_cases a5 : m = 0
              · have d5 : (m == 0) = true := by rw [beq_iff_eq]; exact a5
                have d6 : (m != 0) = false := by simp [a5]
                have RZ : Hid (IsRoom n S T i (min (q) 1073741824)) := Lib.hid (room_some hxn HXI.out (by rw [HS.out]; omega) LST.out.2 (by rw [HTX.out, HTI.out]; omega) q m (by rw [HTX.out, HTI.out, HS.out, HA7.out]; exact HQ.out) (by rw [HTX.out, HTI.out, HS.out, HA7.out]; exact HM.out) _ (by first | (rw [if_pos (by omega)]) | (rw [if_neg (by omega)])))
                obtain ⟨rr, hrr⟩ : ∃ rr, min (q) 1073741824 = rr := ⟨_, rfl⟩
                rw [hrr] at RZ
                have RX := Lib.hid (P7.out.out HBB.out.1 HBB.out.2.1 HBB.out.2.2 RZ.out)
                have r3 : (W7.setCell ⟨B2, 0, none⟩ (.int .i64 rr)).cell? ⟨B3, 0, none⟩ = some (.int .i64 0) := keepSet v3 (Ne.symm HBB.out.2.2)
                clear RZ hh
                try clear a3
                try clear a4
                try clear a5
                try clear a2
                gi_wp2
                exact ⟨(K7.out.setCell (p := ⟨B2, 0, none⟩) HBB.out.1 BL.out.1 _).setCell (p := ⟨B3, 0, none⟩) HBB.out.2.1 BL.out.2 _, rfl, RX.out⟩
              · have d5 : (m == 0) = false := by rw [beq_eq_false_iff_ne]; exact a5
                have d6 : (m != 0) = true := by simp [a5]
                have RZ : Hid (IsRoom n S T i (min (q + 1) 1073741824)) := Lib.hid (room_some hxn HXI.out (by rw [HS.out]; omega) LST.out.2 (by rw [HTX.out, HTI.out]; omega) q m (by rw [HTX.out, HTI.out, HS.out, HA7.out]; exact HQ.out) (by rw [HTX.out, HTI.out, HS.out, HA7.out]; exact HM.out) _ (by first | (rw [if_pos (by omega)]) | (rw [if_neg (by omega)])))
                obtain ⟨rr, hrr⟩ : ∃ rr, min (q + 1) 1073741824 = rr := ⟨_, rfl⟩
                rw [hrr] at RZ
                have RX := Lib.hid (P7.out.out HBB.out.1 HBB.out.2.1 HBB.out.2.2 RZ.out)
                have r3 : (W7.setCell ⟨B2, 0, none⟩ (.int .i64 rr)).cell? ⟨B3, 0, none⟩ = some (.int .i64 0) := keepSet v3 (Ne.symm HBB.out.2.2)
                clear RZ hh
                try clear a3
                try clear a4
                try clear a5
                try clear a2
                gi_wp2
                exact ⟨(K7.out.setCell (p := ⟨B2, 0, none⟩) HBB.out.1 BL.out.1 _).setCell (p := ⟨B3, 0, none⟩) HBB.out.2.1 BL.out.2 _, rfl, RX.out⟩
  case done =>
    rintro xs W6 hxs ⟨p1, p2⟩ hd
    subst hA
    have P1 := Lib.hid p1
    have HD := Lib.hid hd
    have R0 : Hid (IsRoom n S T i 1073741824) := Lib.hid (room_one hi (by
      obtain ⟨d, ⟨rw_, _⟩, hx⟩ := hxs
      by_cases c : n = 1
      · exact c
      · have e : ∀ m', m' < n → d m' = i := fun m' h => p2 (d m') (by rw [hx]; exact List.mem_map.2 ⟨m', List.mem_range.2 h, rfl⟩)
        have := rw_.inj 0 1 (by omega) (by omega) ((e 0 (by omega)).trans (e 1 (by omega)).symm)
        omega))
    have c2 := p1.c2
    have c3 := p1.c3
    have f2 := p1.f2
    have f3 := p1.f3
    have r3 : (W6.setCell ⟨B2, 0, none⟩ (.int .i64 1073741824)).cell? ⟨B3, 0, none⟩ = some (.int .i64 0) := keepSet c3 (Ne.symm HBB.out.2.2)
    have s2 : ((W6.setCell ⟨B2, 0, none⟩ (.int .i64 1073741824)).setCell ⟨B3, 0, none⟩ (.int .i64 0)).cell? ⟨B2, 0, none⟩ = some (.int .i64 1073741824) := keepSet (World.cell?_setCell_same' _ _ _ (by rw [c2]; rfl)) HBB.out.2.2
    have s3 : ((W6.setCell ⟨B2, 0, none⟩ (.int .i64 1073741824)).setCell ⟨B3, 0, none⟩ (.int .i64 0)).cell? ⟨B3, 0, none⟩ = some (.int .i64 0) := World.cell?_setCell_same' _ _ _ (by rw [r3]; rfl)
    have RX := Lib.hid (P1.out.out HBB.out.1 HBB.out.2.1 HBB.out.2.2 R0.out)
    have BL : Hid (B2 < w3.heap.size ∧ B3 < w3.heap.size) := Lib.hid ⟨World.block_lt_of_cell? _ _ R3.out.c2, World.block_lt_of_cell? _ _ R3.out.c3⟩
    have s2 : ((W6.setCell ⟨B2, 0, none⟩ (.int .i64 1073741824)).setCell ⟨B3, 0, none⟩ (.int .i64 0)).cell? ⟨B2, 0, none⟩ = some (.int .i64 1073741824) := keepSet (World.cell?_setCell_same' _ _ _ (by rw [c2]; rfl)) HBB.out.2.2
    have s3 : ((W6.setCell ⟨B2, 0, none⟩ (.int .i64 1073741824)).setCell ⟨B3, 0, none⟩ (.int .i64 0)).cell? ⟨B3, 0, none⟩ = some (.int .i64 0) := World.cell?_setCell_same' _ _ _ (by rw [r3]; rfl)
    have RX := Lib.hid (P1.out.out HBB.out.1 HBB.out.2.1 HBB.out.2.2 R0.out)
    have BL : Hid (B2 < w3.heap.size ∧ B3 < w3.heap.size) := Lib.hid ⟨World.block_lt_of_cell? _ _ R3.out.c2, World.block_lt_of_cell? _ _ R3.out.c3⟩
    have s2 : ((W6.setCell ⟨B2, 0, none⟩ (.int .i64 1073741824)).setCell ⟨B3, 0, none⟩ (.int .i64 0)).cell? ⟨B2, 0, none⟩ = some (.int .i64 1073741824) := keepSet (World.cell?_setCell_same' _ _ _ (by rw [c2]; rfl)) HBB.out.2.2
    have s3 : ((W6.setCell ⟨B2, 0, none⟩ (.int .i64 1073741824)).setCell ⟨B3, 0, none⟩ (.int .i64 0)).cell? ⟨B3, 0, none⟩ = some (.int .i64 0) := World.cell?_setCell_same' _ _ _ (by rw [r3]; rfl)
    have RX := Lib.hid (P1.out.out HBB.out.1 HBB.out.2.1 HBB.out.2.2 R0.out)
    have BL : Hid (B2 < w3.heap.size ∧ B3 < w3.heap.size) := Lib.hid ⟨World.block_lt_of_cell? _ _ R3.out.c2, World.block_lt_of_cell? _ _ R3.out.c3⟩
    clear p1 hd hxs p2
    gi_wp2
    obtain ⟨W8, hW8⟩ : ∃ W8, W8 = (W6.setCell ⟨B2, 0, none⟩ (.int .i64 1073741824)).setCell ⟨B3, 0, none⟩ (.int .i64 0) := ⟨_, rfl⟩
    have HD8 : Hid (W8.heap[w3.heap.size]? = some (.deferred (some []))) := Lib.hid (by
      rw [hW8, Below.heap_setCell _ _ _ _ (by show w3.heap.size ≠ B3; have := BL.out; omega), Below.heap_setCell _ _ _ _ (by show w3.heap.size ≠ B2; have := BL.out; omega)]; exact HD.out)
    rw [← hW8] at s2 s3 RX ⊢
    clear hW8 c2 c3 f2 f3 r3
    refine ⟨by simp, .inl ⟨_, _, rfl, run_takeDeferred HD8.out, ?_⟩⟩
    have e2 := (putObj_cell W8 w3.heap.size (.deferred none) (p := ⟨B2, 0, none⟩) (by show B2 ≠ w3.heap.size; have := BL.out; omega)).trans s2
    have e3 := (putObj_cell W8 w3.heap.size (.deferred none) (p := ⟨B3, 0, none⟩) (by show B3 ≠ w3.heap.size; have := BL.out; omega)).trans s3
    refine ⟨.tuple #[.int .i64 1073741824, .int .i64 0], by simp [results, Try.results13, go_sem, e2, e3], _, R0.out, rfl, ?_⟩
    obtain ⟨_, _, _, _, bb⟩ := RX.out
    exact bb.trans (below_putObj _ _ _ R3.out.bel.size bb.size)
  case stop =>
    rintro c pre W6 _ ⟨rfl, p1⟩ hd
    subst hA
    obtain ⟨r, hr, e2, e3, bb⟩ := p1
    have BL : B2 < w3.heap.size ∧ B3 < w3.heap.size := ⟨World.block_lt_of_cell? _ _ R3.out.c2, World.block_lt_of_cell? _ _ R3.out.c3⟩
    have g2 := (putObj_cell W6 w3.heap.size (.deferred none) (p := ⟨B2, 0, none⟩) (by show B2 ≠ w3.heap.size; omega)).trans e2
    have g3 := (putObj_cell W6 w3.heap.size (.deferred none) (p := ⟨B3, 0, none⟩) (by show B3 ≠ w3.heap.size; omega)).trans e3
    gi_wp2
    refine ⟨by simp, .inl ⟨_, _, rfl, run_takeDeferred hd, ?_⟩⟩
    refine ⟨.tuple #[.int .i64 r, .int .i64 0], by simp [results, Try.results13, go_sem, g2, g3], _, hr, rfl, ?_⟩
    exact bb.trans (below_putObj _ _ _ R3.out.bel.size bb.size)
end
end Go.Proofs.Ytfigepnpegnhkaa
