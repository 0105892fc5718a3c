/- same: the clock beside the document's. -/
import Derived.Test.YtfigepnpegnhkaaClkU
import Derived.Deep.RegionHeld3
namespace Go.Proofs.Ytfigepnpegnhkaa
open Go Go.RowKit Go.Shelf
attribute [local go_sem] Oper.semAt_some
set_option linter.unusedVariables false
set_option linter.unusedSimpArgs false
set_option maxRecDepth 100000
theorem IsOrd.uniq {n : Nat} {T : Nat → Int} {d d' : Nat → Nat} (h : IsOrd n T d) (h' : IsOrd n T d') : ∀ k j, j < k → j < n → d j = d' j
  | 0, j, hj, _ => absurd hj (by omega)
  | k + 1, j, hj, hn => by
    have ih := fun m (hm : m < j) => IsOrd.uniq h h' k m (by omega) (by omega)
    by_cases e : d j = d' j
    · exact e
    · exfalso
      obtain ⟨m, hm, em⟩ := h'.1.onto (d j) (h.1.lt j hn)
      obtain ⟨m', hm', em'⟩ := h.1.onto (d' j) (h'.1.lt j hn)
      have c1 : j < m := by
        rcases Nat.lt_trichotomy m j with c | c | c
        · have := h.1.inj m j (by omega) hn ((ih m c).trans em)
          omega
        · subst c; exact absurd em.symm e
        · exact c
      have c2 : j < m' := by
        rcases Nat.lt_trichotomy m' j with c | c | c
        · have := h'.1.inj m' j (by omega) hn ((ih m' c).symm.trans em')
          omega
        · subst c; exact absurd em' e
        · exact c
      have a1 := h'.2 j m (by omega) c1 hm
      have a2 := h.2 j m' (by omega) c2 hm'
      rw [em] at a1
      rw [em'] at a2
      exact ahd_asymm T a1 a2
theorem IsOrd.least {n : Nat} {T : Nat → Int} {d : Nat → Nat} (io : IsOrd n T d) (h1 : 1 ≤ n) : Least T n (d 0) := by
  refine ⟨io.1.lt 0 (by omega), fun j hj hne => ?_⟩
  obtain ⟨m, hm, rfl⟩ := io.1.onto j hj
  exact io.2 0 m (by omega) (by rcases Nat.eq_zero_or_pos m with h | h; exact absurd (by rw [h]) hne; exact h) hm
/-- The cells of same's own. -/
structure Sm (W0 : World) (B0 B1 B2 B3 g b cap n bs cs bt ct bl : Nat) (S T : Nat → Int) (d : Nat → Nat) (k : Nat) (w : World) : Prop where
  ck : Ck w g b cap n S T
  rk : Rk w bs bt n S T
  c0 : w.cell? ⟨B0, 0, none⟩ = some (.slice (some ⟨bs, 0, none⟩) n cs)
  c1 : w.cell? ⟨B0, 1, none⟩ = some (.slice (some ⟨bt, 0, none⟩) n ct)
  c2 : w.cell? ⟨B1, 0, none⟩ = some (.bool false)
  c3 : w.cell? ⟨B2, 0, none⟩ = some (.slice (some ⟨bl, 0, none⟩) n n)
  c4 : w.cell? ⟨B3, 0, none⟩ = some (.int .i64 k)
  f2 : w.frozen? ⟨B1, 0, none⟩ = false
  f4 : w.frozen? ⟨B3, 0, none⟩ = false
  ln : Ln w bl n d
  bel : Below W0.heap.size W0 w
theorem Sm.kept {W0 w w' : World} {B0 B1 B2 B3 g b cap n bs cs bt ct bl k : Nat} {S T : Nat → Int} {d : Nat → Nat} (h : Sm W0 B0 B1 B2 B3 g b cap n bs cs bt ct bl S T d k w) (hb : Below w.heap.size w w') : Sm W0 B0 B1 B2 B3 g b cap n bs cs bt ct bl S T d k w' :=
  ⟨h.ck.kept hb, h.rk.kept hb, keepC hb h.c0, keepC hb h.c1, keepC hb h.c2, keepC hb h.c3, keepC hb h.c4, (hb.frozen (p := ⟨B1, 0, none⟩) (World.block_lt_of_cell? _ _ h.c2)).trans h.f2, (hb.frozen (p := ⟨B3, 0, none⟩) (World.block_lt_of_cell? _ _ h.c4)).trans h.f4, Arr.kept h.ln hb, h.bel.trans (hb.mono h.bel.size)⟩
theorem Sm.via {W0 w3 w w' : World} {B0 B1 B2 B3 g b cap n bs cs bt ct bl k k' : Nat} {S T : Nat → Int} {d : Nat → Nat} (h3 : Sm W0 B0 B1 B2 B3 g b cap n bs cs bt ct bl S T d k' w3) (h : Sm W0 B0 B1 B2 B3 g b cap n bs cs bt ct bl S T d k w) (hb : Below w3.heap.size w w') : Sm W0 B0 B1 B2 B3 g b cap n bs cs bt ct bl S T d k w' := by
  have ce : ∀ {a : Addr} {v u : Value}, w3.cell? a = some u → w.cell? a = some v → w'.cell? a = some v := fun h1 h2 => (hb.cell (World.block_lt_of_cell? _ _ h1)).trans h2
  have fe : ∀ {a : Addr} {u : Value}, w3.cell? a = some u → w.frozen? a = false → w'.frozen? a = false := fun h1 h2 => (hb.frozen (World.block_lt_of_cell? _ _ h1)).trans h2
  exact ⟨⟨ce h3.ck.hd h.ck.hd, h.ck.ne, h.ck.arr.below hb h3.ck.arr.lt⟩, ⟨h.rk.sc.below hb h3.rk.sc.lt, h.rk.tm.below hb h3.rk.tm.lt, h.rk.ne⟩, ce h3.c0 h.c0, ce h3.c1 h.c1, ce h3.c2 h.c2, ce h3.c3 h.c3, ce h3.c4 h.c4, fe h3.c2 h.f2, fe h3.c4 h.f4, Arr.below h.ln hb (Arr.lt h3.ln), h.bel.trans (hb.mono h3.bel.size)⟩
theorem Sm.bump {W0 w : World} {B0 B1 B2 B3 g b cap n bs cs bt ct bl k : Nat} {S T : Nat → Int} {d : Nat → Nat} (h : Sm W0 B0 B1 B2 B3 g b cap n bs cs bt ct bl S T d k w) (hw : W0.heap.size ≤ B3) (hne : g ≠ B3 ∧ b ≠ B3 ∧ bs ≠ B3 ∧ bt ≠ B3 ∧ B0 ≠ B3 ∧ B1 ≠ B3 ∧ B2 ≠ B3 ∧ bl ≠ B3) :
    Sm W0 B0 B1 B2 B3 g b cap n bs cs bt ct bl S T d (k + 1) (w.setCell ⟨B3, 0, none⟩ (.int .i64 ((k : Int) + 1))) := by
  obtain ⟨n1, n2, n3, n4, n5, n6, n7, n8⟩ := hne
  exact ⟨⟨keepSet h.ck.hd n1, h.ck.ne, h.ck.arr.other (Ne.symm n2) _⟩, ⟨h.rk.sc.other (Ne.symm n3) _, h.rk.tm.other (Ne.symm n4) _, h.rk.ne⟩, keepSet h.c0 n5, keepSet h.c1 n5, keepSet h.c2 n6, keepSet h.c3 n7,
    World.cell?_setCell_same' _ _ _ (by rw [h.c4]; rfl), by rw [World.frozen?_setCell]; exact h.f2, by rw [World.frozen?_setCell]; exact h.f4, Arr.other h.ln (Ne.symm n8) _, h.bel.setCell hw _⟩
set_option maxHeartbeats 8000000 in
theorem same_any (w : World) (g b cap n bs cs bt ct : Nat) (S T : Nat → Int) (C : Ck w g b cap n S T) (K : Rk w bs bt n S T) (h1 : 1 ≤ n) (hn : n ≤ 16) (i : Int) (sc : ∀ j, j < n → 1 ≤ S j ∧ S j ≤ 16777216) (tm : ∀ j, j < n → 0 ≤ T j ∧ T j ≤ 1152921504606846976) :
    Calls Try.prog 27 #[.pointer (some ⟨g, 0, none⟩), rkV bs cs bt ct n, .int .i64 i] w (Says w (.bool true)) := by
  have CK := Lib.hid C
  have KK := Lib.hid K
  have SC := Lib.hid sc
  have TM := Lib.hid tm
  clear C K sc tm
  refine callsIn_wide.1 (?_ : CallsIn Fence.wide 0 _ _ _ _ _)
  refine callsIn_of_wp_marks Try.func27 rfl trivial ?_ rfl
  simp only [Try.ntmps27, List.size_toArray, List.length_cons, List.length_nil, Nat.reduceAdd, Nat.reduceSub, Array.replicate_succ, Array.replicate_zero, List.push_toArray, List.append_toArray, List.nil_append, List.cons_append]
  refine wpIn_wide.2 ?_
  go_upto_region 1 with (fail)
  obtain ⟨W1, hW⟩ : ∃ W1, W1 = (w.alloc (.cells #[.slice (some ⟨bs, 0, none⟩) n cs, .slice (some ⟨bt, 0, none⟩) n ct] 48)).alloc (.cells #[.bool false] 4) := ⟨_, rfl⟩
  obtain ⟨B0, hB⟩ : ∃ B, B = w.heap.size := ⟨_, rfl⟩
  rw [← hW, ← hB]
  obtain ⟨B1, hB1⟩ : ∃ x, x = B0 + 1 := ⟨_, rfl⟩
  rw [← hB1]
  have x0 : W1.cell? ⟨B0, 0, none⟩ = some (.slice (some ⟨bs, 0, none⟩) n cs) := by rw [hW, hB]; simp [go_sem]
  have x1 : W1.cell? ⟨B0, 1, none⟩ = some (.slice (some ⟨bt, 0, none⟩) n ct) := by rw [hW, hB]; simp [go_sem]
  have x2 : W1.cell? ⟨B1, 0, none⟩ = some (.bool false) := by rw [hW, hB1, hB]; simp [go_sem]
  have y2 : W1.frozen? ⟨B1, 0, none⟩ = false := by rw [hW, hB1, hB]; simp [go_sem]
  have bW1 : Below w.heap.size w W1 := by rw [hW]; exact belowA (belowA (Below.refl _ _) _) _
  have HBB := Lib.hid (show w.heap.size ≤ B0 ∧ w.heap.size ≤ B1 by omega)
  have HW1 := Lib.hid bW1
  have CK1 := Lib.hid (CK.out.kept bW1)
  have KK1 := Lib.hid (KK.out.kept bW1)
  have X0 := Lib.hid x0
  have X1 := Lib.hid x1
  have X2 := Lib.hid x2
  have Y2 := Lib.hid y2
  clear hW hB hB1 bW1 CK KK y2 x2
  go_cut [29] from 16 to 29 (fun v wx => v = .bool false ∧ Below W1.heap.size W1 wx)
  case first =>
    have LE := Lib.hid (fun w' (h : Below W1.heap.size W1 w') => len_any (CK1.out.kept h))
    have TI := Lib.hid (fun w' (h : Below W1.heap.size W1 w') => times_any (CK1.out.kept h) h1 hn)
    have LO : Hid (∀ w' w2 gt c, Below W1.heap.size W1 w' → Arr w' .i64 2 gt n T → Below w'.heap.size w' w2 → Calls Try.prog 25 #[.slice (some ⟨gt, 0, none⟩) n c, .slice (some ⟨bt, 0, none⟩) n ct] w2 (Says w2 (.bool true))) := Lib.hid (fun w' w2 gt c h A h2 =>
      (longs_any w2 _ _ n n T T ((A.kept h2).sees) (((KK1.out.kept h).kept h2).tm.sees) (by omega)).mono (by
        rintro e w3 ⟨r, hr, rfl, hb⟩
        have : r = true := hr.2 ⟨rfl, fun _ _ => rfl⟩
        subst this
        exact ⟨rfl, hb⟩))
    refine wp_region_noPanic ?_
    go_region_with (first
      | (go_at_call 19; refine (LE.out _ (by repeat (first | exact Below.refl _ _ | apply belowD | apply belowN))).mono ?_; rintro e w2 ⟨rfl, b2⟩; have bb2 := (belowD (Below.refl _ W1)).trans b2; have z0 := keepC bb2 X0.out; have z1 := keepC bb2 X1.out; clear b2)
      | (go_at_call 15; refine (TI.out _ bb2).mono ?_; rintro e w3 ⟨gt, c3, rfl, hgt, A3, b3⟩; have bb3 := bb2.trans (b3.mono bb2.size); have u0 := keepC bb3 X0.out; have u1 := keepC bb3 X1.out; have A3 := Lib.hid A3; clear b3 hgt)
      | (go_at_call 25; refine (LO.out _ _ _ _ bb3 A3.out (Below.refl _ _)).mono ?_; rintro e w4 ⟨rfl, b4⟩; have bb4 := Lib.hid (bb3.trans (b4.mono bb3.size)); clear b4))
    all_goals (refine NoPanic.normal ?_; go_wp2_with fail; go_meet; exact ⟨rfl, bb4.out⟩)
  case rest =>
    obtain ⟨rfl, bb⟩ := hcut
    have CK2 := Lib.hid (CK1.out.kept bb)
    have KK2 := Lib.hid (KK1.out.kept bb)
    have BB := Lib.hid (HW1.out.trans (bb.mono HW1.out.size))
    have z0 := keepC bb X0.out
    have z1 := keepC bb X1.out
    have Z2 := Lib.hid (keepC bb X2.out)
    have Z3 : Hid (wc.frozen? ⟨B1, 0, none⟩ = false) := Lib.hid ((bb.frozen (p := ⟨B1, 0, none⟩) (World.block_lt_of_cell? _ _ X2.out)).trans Y2.out)
    clear bb CK1 KK1 x0 x1 X0 X1 X2 Y2 HW1
    go_upto_region 3 with (fail)
    have OR := Lib.hid (rorder_any (cs := cs) (ct := ct) KK2.out h1 hn)
    go_wp2_with fail
    refine OR.out.mono ?_
    rintro e w2 ⟨bl, d, rfl, hbl, ln, io, b2⟩
    have CK3 := Lib.hid (CK2.out.kept b2)
    have KK3 := Lib.hid (KK2.out.kept b2)
    have B3' := Lib.hid (BB.out.trans (b2.mono BB.out.size))
    have z0' := keepC b2 z0
    have z1' := keepC b2 z1
    have Z2' := Lib.hid (keepC b2 Z2.out)
    have Z3' : Hid (w2.frozen? ⟨B1, 0, none⟩ = false) := Lib.hid ((b2.frozen (p := ⟨B1, 0, none⟩) (World.block_lt_of_cell? _ _ Z2.out)).trans Z3.out)
    have LN := Lib.hid ln
    have IsO := Lib.hid io
    have HS2 := Lib.hid (show w.heap.size ≤ w2.heap.size from B3'.out.size)
    clear b2 z0 z1 Z2 Z3 ln io OR CK2 KK2 BB hbl
    go_wp2_with fail
    obtain ⟨W3, hW3⟩ : ∃ W3, W3 = (w2.alloc (.cells #[.slice (some ⟨bl, 0, none⟩) n n] 35)).alloc (.cells #[.int .i64 0] 3) := ⟨_, rfl⟩
    obtain ⟨B2, hB2⟩ : ∃ B, B = w2.heap.size := ⟨_, rfl⟩
    have w0' : W3.cell? ⟨B0, 0, none⟩ = some (.slice (some ⟨bs, 0, none⟩) n cs) := by rw [hW3]; exact keepAlloc (keepAlloc z0' _) _
    have w1' : W3.cell? ⟨B0, 1, none⟩ = some (.slice (some ⟨bt, 0, none⟩) n ct) := by rw [hW3]; exact keepAlloc (keepAlloc z1' _) _
    have bW3 : Below w2.heap.size w2 W3 := by rw [hW3]; exact belowA (belowA (Below.refl _ _) _) _
    obtain ⟨B3, hB3⟩ : ∃ x, x = B2 + 1 := ⟨_, rfl⟩
    have R3 : Hid (Sm w B0 B1 B2 B3 g b cap n bs cs bt ct bl S T d 0 W3) := Lib.hid
      ⟨CK3.out.kept bW3, KK3.out.kept bW3, w0', w1', keepC bW3 Z2'.out, by rw [hW3, hB2]; simp [go_sem], by rw [hW3, hB3, hB2]; simp [go_sem], (bW3.frozen (p := ⟨B1, 0, none⟩) (World.block_lt_of_cell? _ _ Z2'.out)).trans Z3'.out, by rw [hW3, hB3, hB2]; simp [go_sem], Arr.kept LN.out bW3, B3'.out.trans (bW3.mono B3'.out.size)⟩
    have HBC := Lib.hid (show w.heap.size ≤ B2 ∧ w.heap.size ≤ B3 by have := B3'.out.size; omega)
    have HNE : Hid (g ≠ B3 ∧ b ≠ B3 ∧ bs ≠ B3 ∧ bt ≠ B3 ∧ B0 ≠ B3 ∧ B1 ≠ B3 ∧ B2 ≠ B3 ∧ bl ≠ B3) := Lib.hid (by
      have q1 : g < w2.heap.size := World.block_lt_of_cell? _ _ CK3.out.hd
      have q2 := CK3.out.arr.lt
      have q3 := KK3.out.sc.lt
      have q4 := KK3.out.tm.lt
      have q5 : B0 < w2.heap.size := World.block_lt_of_cell? _ _ z0'
      have q6 : B1 < w2.heap.size := World.block_lt_of_cell? _ _ Z2'.out
      have q7 := Arr.lt LN.out
      omega)
    rw [← hW3, ← hB2, ← hB3]
    clear hW3 hB2 hB3 z0' z1' Z2' Z3' w0' w1' bW3 CK3 KK3 LN B3' HS2
    refine (order_fn W3 _).mono ?_
    rintro e w3 ⟨rfl, hw3⟩
    obtain ⟨Bx, hBx⟩ : ∃ B, B = W3.heap.size := ⟨_, rfl⟩
    have R4 : Hid (Sm w B0 B1 B2 B3 g b cap n bs cs bt ct bl S T d 0 w3) := Lib.hid (by rw [hw3]; exact R3.out.kept (belowA (Below.refl _ _) _))
    have xx : w3.cell? ⟨Bx, 0, none⟩ = some (.pointer (some ⟨g, 0, none⟩)) := by rw [hw3, hBx]; simp [go_sem]
    rw [← hBx]
    have XX := Lib.hid xx
    clear hw3 hBx R3 xx
    go_wp2_with fail
    refine wpIn_wide.1 (?_ : Code.wpIn Fence.wide 0 _ _ _ _ _)
    generalize hA : Act.mk _ _ = A
    refine wp_rangeB (gf := 33) (lb := #[.pointer (some ⟨Bx, 0, none⟩)]) (by rw [← hA]; rfl) (enters_of Try.func33 (by kernel_rfl) rfl)
      (n0 := w.heap.size) (B0 := w3.heap.size) (Nat.le_refl _)
      (order_in w3 Bx XX.out R4.out.ck h1 hn w.heap.size w3.heap.size) (Below.refl _ _) R4.out.bel.size (fun _ => rfl)
      (fun pre w' => Sm w B0 B1 B2 B3 g b cap n bs cs bt ct bl S T d pre.length w') (fun c pre w' => False)
      ?hI ?hIx ?h0
      (fun x act w' => act = { tmps := (A.tmps.setIfInBounds 34 (.int .i64 x)).setIfInBounds 9 (.int .i64 x), defers := [] })
      ?hP ?assign ?body ?done ?stop
    case hI => rintro pre C D p1 hb; exact R4.out.via p1 hb
    case hIx => rintro c pre C D h hb; exact h
    case h0 => exact R4.out
    case hP => rintro x act C D rfl k; rfl
    case assign =>
      intro a W6 K hsz hK
      subst hA
      have HK := Lib.hid hK
      clear hK
      gi_wp2
      refine HK.out _ _ ?_ (Below.refl _ _)
      rfl
    case body =>
      rintro pre x act W6 rfl p1 hok hsz
      subst hA
      have hx : x = d pre.length := by
        obtain ⟨d', io', hl, hx, _⟩ := hok
        rw [hx]; exact (IsO.out.uniq io' (pre.length + 1) pre.length (by omega) hl).symm
      have hlt : pre.length < n := by obtain ⟨_, _, hl, _⟩ := hok; exact hl
      obtain ⟨k, hk⟩ : ∃ k, pre.length = k := ⟨_, rfl⟩
      have HKP : Hid ((pre ++ [x]).length = k + 1) := Lib.hid (by rw [List.length_append, hk]; rfl)
      rw [hk] at p1 hx hlt
      subst hx
      have P1 := Lib.hid p1
      have c3 := p1.c3
      have c4 := p1.c4
      have f4 := p1.f4
      have cl : W6.cell? ⟨bl, k, none⟩ = some (.int .i64 (d k)) := Arr.cell p1.ln hlt
      have zk : (k : Int) < n := by omega
      have z0 : (0 : Int) ≤ k := by omega
      have zd : decide ((n : Int) ≤ k) = false := decide_eq_false (by omega)
      have zd' : decide (n ≤ k) = false := decide_eq_false (by omega)
      have wk : IntKind.i64.wrap ((k : Int) + 1) = ((k + 1 : Nat) : Int) := by rw [IntKind.wrap_i64]; omega
      obtain ⟨dk, hdk⟩ : ∃ v, d k = v := ⟨_, rfl⟩
      rw [hdk] at cl HKP ⊢
      clear p1 hok hk hdk
      simp only [List.setIfInBounds_toArray, List.set_cons_succ, List.set_cons_zero]
      gi_wp2
      refine ⟨(KB.refl _ _ _).setCell (p := ⟨B3, 0, none⟩) HBC.out.2 (World.block_lt_of_cell? _ _ R4.out.c4) _, ?_⟩
      show Sm w B0 B1 B2 B3 g b cap n bs cs bt ct bl S T d (pre ++ [dk]).length _
      rw [HKP.out]
      exact P1.out.bump HBC.out.2 HNE.out
    case done =>
      rintro xs W6 hxs p1 hd
      subst hA
      have hxl : xs.length = n := by obtain ⟨d', _, hx⟩ := hxs; rw [hx]; simp
      rw [hxl] at p1
      have P6 := Lib.hid p1
      have HD := Lib.hid hd
      have HDL : Hid (w3.heap.size < W6.heap.size) := Lib.hid (Array.getElem?_eq_some_iff.1 hd |>.1)
      clear p1 hd hxs hxl
      have k0 := P6.out.c3
      have k1 := P6.out.c4
      have k2 : W6.cell? ⟨bl, 0, none⟩ = some (.int .i64 (d 0)) := Arr.cell P6.out.ln (by omega)
      have l0 := World.block_lt_of_cell? _ _ k0
      have l1 := World.block_lt_of_cell? _ _ k1
      have l2 := World.block_lt_of_cell? _ _ k2
      simp only at l0 l1 l2
      have z1 : (0 : Int) < n := by omega
      have NX := Lib.hid (fun w' (h : Below W6.heap.size W6 w') => (next_any (P6.out.ck.kept h) h1 hn).mono (R' := Says w' (.int .i64 (d 0))) (by
        rintro e w'' ⟨x, hx, rfl, hb⟩
        rw [hx.uniq (IsO.out.least h1)]
        exact ⟨rfl, hb⟩))
      obtain ⟨d0, hd0⟩ : ∃ v, d 0 = v := ⟨_, rfl⟩
      rw [hd0] at k2 NX
      clear hd0
      go_upto_region 10 with (fail)
      refine wp_region_more (by kernel_rfl) (by kernel_rfl) ?_
      repeat (go_big_quiet_step ((go_at_call 12; exact quiet_more ((NX.out _ (below_more _)).mono (fun _ _ h => h)))))
      refine wpQuiet_nil ?_
      rintro _ ⟨nq, rfl⟩
      have P7 := Lib.hid (P6.out.kept (below_more nq))
      have HD7 : Hid ((moreOf W6 nq).heap[w3.heap.size]? = some (.deferred (some []))) := Lib.hid (((below_more nq).block _ HDL.out).trans HD.out)
      generalize moreOf W6 nq = W7 at P7 HD7 ⊢
      clear k0 k1 k2 l0 l1 l2 z1 NX P6 HD HDL
      by_cases hi : 0 ≤ i ∧ i < n
      · have z0 : decide (0 ≤ i ∧ i < n) = true := decide_eq_true hi
        obtain ⟨m, rfl⟩ : ∃ m : Nat, i = m := ⟨i.toNat, by omega⟩
        have hm : m < n := by omega
        have zm0 : (0 : Int) ≤ m := by omega
        have zm : (m : Int) < n := by omega
        clear hi
        have A8 := Lib.hid (scale_any P7.out.ck m hm hn)
        go_wp2_with fail
        refine (A8.out).mono ?_
        rintro e w8 ⟨rfl, b8⟩
        have P8 := Lib.hid (P7.out.kept b8)
        have HD8 : Hid (w8.heap[w3.heap.size]? = some (.deferred (some []))) := Lib.hid ((b8.block _ (Array.getElem?_eq_some_iff.1 HD7.out |>.1)).trans HD7.out)
        clear b8 P7 HD7
        clear A8
        have A9 := Lib.hid (at_any P8.out.ck m hm hn)
        go_wp2_with fail
        refine (A9.out).mono ?_
        rintro e w9 ⟨rfl, b9⟩
        have P9 := Lib.hid (P8.out.kept b9)
        have HD9 : Hid (w9.heap[w3.heap.size]? = some (.deferred (some []))) := Lib.hid ((b9.block _ (Array.getElem?_eq_some_iff.1 HD8.out |>.1)).trans HD8.out)
        clear b9 P8 HD8
        clear A9
        have A10 := Lib.hid (room_any P9.out.ck hn m hm SC.out TM.out)
        go_wp2_with fail
        refine A10.out.mono ?_
        rintro e w10 ⟨r, hr, rfl, b10⟩
        have P10 := Lib.hid (P9.out.kept b10)
        have HD10 : Hid (w10.heap[w3.heap.size]? = some (.deferred (some []))) := Lib.hid ((b10.block _ (Array.getElem?_eq_some_iff.1 HD9.out |>.1)).trans HD9.out)
        have HR := Lib.hid hr
        clear b10 P9 HD9 A10 hr
        have c0 := P10.out.c0
        have c1 := P10.out.c1
        have A11 := Lib.hid (is_any (cs := cs) (ct := ct) P10.out.rk hn (m : Int))
        rw [z0] at A11
        go_wp2_with fail
        refine (A11.out).mono ?_
        rintro e w11 ⟨rfl, b11⟩
        have P11 := Lib.hid (P10.out.kept b11)
        have HD11 : Hid (w11.heap[w3.heap.size]? = some (.deferred (some []))) := Lib.hid ((b11.block _ (Array.getElem?_eq_some_iff.1 HD10.out |>.1)).trans HD10.out)
        clear b11 P10 HD10
        clear A11 c0 c1
        have c0 := P11.out.c0
        have c1 := P11.out.c1
        have c2 := P11.out.c2
        have f2 := P11.out.f2
        have y0 := P11.out.rk.sc.cell hm
        have y1 := P11.out.rk.tm.cell hm
        obtain ⟨s, hs⟩ : ∃ s, S m = s := ⟨_, rfl⟩
        obtain ⟨t, ht⟩ : ∃ t, T m = t := ⟨_, rfl⟩
        rw [hs] at y0 ⊢
        rw [ht] at y1 ⊢
        have A12 := Lib.hid (rroom_any (cs := cs) (ct := ct) P11.out.rk hn m hm SC.out TM.out)
        clear hs ht z0
        go_wp2_with fail
        refine A12.out.mono ?_
        rintro e w12 ⟨r', hr', rfl, b12⟩
        obtain rfl := HR.out.uniq hr'
        have P12 := Lib.hid (P11.out.kept b12)
        have HD12 : Hid (w12.heap[w3.heap.size]? = some (.deferred (some []))) := Lib.hid ((b12.block _ (Array.getElem?_eq_some_iff.1 HD11.out |>.1)).trans HD11.out)
        clear b12 P11 HD11 A12 hr' c0 c1 c2 f2 y0 y1 HR
        have c2 := P12.out.c2
        have f2 := P12.out.f2
        go_wp2_with fail
        obtain ⟨W9, hW9⟩ : ∃ W9, W9 = w12.setCell ⟨B1, 0, none⟩ (.bool true) := ⟨_, rfl⟩
        have HDX : W9.heap[w3.heap.size]? = some (.deferred (some [])) := by rw [hW9, Below.heap_setCell _ _ _ _ (by show w3.heap.size ≠ B1; have := World.block_lt_of_cell? _ _ R4.out.c2; simp only at this; omega)]; exact HD12.out
        have e2 : W9.cell? ⟨B1, 0, none⟩ = some (.bool true) := by rw [hW9]; exact World.cell?_setCell_same' _ _ _ (by rw [P12.out.c2]; rfl)
        have BX : Below w.heap.size w W9 := by rw [hW9]; exact P12.out.bel.setCell HBB.out.2 _
        try rw [← hW9]
        have e3 := (putObj_cell W9 w3.heap.size (.deferred none) (p := ⟨B1, 0, none⟩) (by show B1 ≠ w3.heap.size; have := World.block_lt_of_cell? _ _ R4.out.c2; simp only at this; omega)).trans e2
        refine ⟨by simp, .inl ⟨_, _, rfl, run_takeDeferred HDX, ?_⟩⟩
        refine ⟨.bool true, by simp [results, Try.results27, go_sem, e3], rfl, ?_⟩
        exact BX.trans (below_putObj _ _ _ R4.out.bel.size BX.size)
      · have z0 : decide (0 ≤ i ∧ i < n) = false := decide_eq_false hi
        have hi2 : i < 0 ∨ (n : Int) ≤ i := by omega
        have HI := Lib.hid hi2
        clear hi hi2
        have A8 := Lib.hid (scale_bad P7.out.ck i HI.out hn)
        go_wp2_with fail
        refine (A8.out).mono ?_
        rintro e w8 ⟨rfl, b8⟩
        have P8 := Lib.hid (P7.out.kept b8)
        have HD8 : Hid (w8.heap[w3.heap.size]? = some (.deferred (some []))) := Lib.hid ((b8.block _ (Array.getElem?_eq_some_iff.1 HD7.out |>.1)).trans HD7.out)
        clear b8 P7 HD7
        clear A8
        have A9 := Lib.hid (at_bad P8.out.ck i HI.out hn)
        go_wp2_with fail
        refine (A9.out).mono ?_
        rintro e w9 ⟨rfl, b9⟩
        have P9 := Lib.hid (P8.out.kept b9)
        have HD9 : Hid (w9.heap[w3.heap.size]? = some (.deferred (some []))) := Lib.hid ((b9.block _ (Array.getElem?_eq_some_iff.1 HD8.out |>.1)).trans HD8.out)
        clear b9 P8 HD8
        clear A9
        have A10 := Lib.hid (room_bad P9.out.ck i HI.out hn)
        go_wp2_with fail
        refine (A10.out).mono ?_
        rintro e w10 ⟨rfl, b10⟩
        have P10 := Lib.hid (P9.out.kept b10)
        have HD10 : Hid (w10.heap[w3.heap.size]? = some (.deferred (some []))) := Lib.hid ((b10.block _ (Array.getElem?_eq_some_iff.1 HD9.out |>.1)).trans HD9.out)
        clear b10 P9 HD9
        clear A10
        have c0 := P10.out.c0
        have c1 := P10.out.c1
        have A11 := Lib.hid (is_any (cs := cs) (ct := ct) P10.out.rk hn i)
        rw [z0] at A11
        go_wp2_with fail
        refine (A11.out).mono ?_
        rintro e w11 ⟨rfl, b11⟩
        have P11 := Lib.hid (P10.out.kept b11)
        have HD11 : Hid (w11.heap[w3.heap.size]? = some (.deferred (some []))) := Lib.hid ((b11.block _ (Array.getElem?_eq_some_iff.1 HD10.out |>.1)).trans HD10.out)
        clear b11 P10 HD10
        clear A11 c0 c1
        have c2 := P11.out.c2
        have f2 := P11.out.f2
        go_wp2_with fail
        obtain ⟨W9, hW9⟩ : ∃ W9, W9 = w11.setCell ⟨B1, 0, none⟩ (.bool true) := ⟨_, rfl⟩
        have HDX : W9.heap[w3.heap.size]? = some (.deferred (some [])) := by rw [hW9, Below.heap_setCell _ _ _ _ (by show w3.heap.size ≠ B1; have := World.block_lt_of_cell? _ _ R4.out.c2; simp only at this; omega)]; exact HD11.out
        have e2 : W9.cell? ⟨B1, 0, none⟩ = some (.bool true) := by rw [hW9]; exact World.cell?_setCell_same' _ _ _ (by rw [P11.out.c2]; rfl)
        have BX : Below w.heap.size w W9 := by rw [hW9]; exact P11.out.bel.setCell HBB.out.2 _
        try rw [← hW9]
        have e3 := (putObj_cell W9 w3.heap.size (.deferred none) (p := ⟨B1, 0, none⟩) (by show B1 ≠ w3.heap.size; have := World.block_lt_of_cell? _ _ R4.out.c2; simp only at this; omega)).trans e2
        refine ⟨by simp, .inl ⟨_, _, rfl, run_takeDeferred HDX, ?_⟩⟩
        refine ⟨.bool true, by simp [results, Try.results27, go_sem, e3], rfl, ?_⟩
        exact BX.trans (below_putObj _ _ _ R4.out.bel.size BX.size)
    case stop =>
      rintro c pre W6 _ h
      exact h.elim
end Go.Proofs.Ytfigepnpegnhkaa
