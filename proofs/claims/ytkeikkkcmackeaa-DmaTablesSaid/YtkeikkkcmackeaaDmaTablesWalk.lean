/- DmaTables: the walk. -/
import Derived.Test.YtkeikkkcmackeaaTabC
import Derived.Test.YtkeikkkcmackeaaTabE
import Derived.Test.YtkeikkkcmackeaaOpen
import Derived.WalkKit
import Derived.ProofKit
import Derived.OpenShut
namespace Go.Proofs.Ytkeikkkcmackeaa.dmaTables
open Go.RowKit
set_option linter.unusedVariables false
set_option linter.unusedSimpArgs false
set_option maxRecDepth 100000

set_option maxHeartbeats 1000000 in
theorem size_any (m : Int) (w : World) (m0 : 0 ≤ m) (m7 : m ≤ 7) : Calls Try.prog 17 #[.int .u8 m] w (Says w (.int .i64 (lenOf m))) := by
  have e := and7 m m0 (by omega)
  have em : m % 8 = m := by omega
  rw [em] at e
  clear em
  rcases (show m = 0 ∨ m = 1 ∨ m = 2 ∨ m = 3 ∨ m = 4 ∨ m = 5 ∨ m = 6 ∨ m = 7 by omega) with rfl | rfl | rfl | rfl | rfl | rfl | rfl | rfl
  all_goals
    go_enter Try.func17, Try.ntmps17
    go_wp2_with fail
    go_ret
    exact ⟨rfl, Below.refl _ _⟩

theorem Ents.kept {w w' : World} {v : Value} {es : List (Int × Int)} (h : Ents w v es) (hb : Below w.heap.size w w') : Ents w' v es := by
  obtain ⟨ao, c, e, h⟩ := h
  refine ⟨ao, c, e, h.imp id ?_⟩
  rintro ⟨b, off, ea, h⟩
  exact ⟨b, off, ea, fun i x hx => ⟨keepC hb (h i x hx).1, keepC hb (h i x hx).2⟩⟩
/-- The tables in memory. -/
def TM (w : World) (bb : Nat) (lo : Option Addr) (Bs : List Int) (Ls : List (List Int)) : Prop :=
  (∀ (i : Nat) x, Bs[i]? = some x → w.cell? ⟨bb, i, none⟩ = some (.int .u8 x)) ∧
  ∀ (k : Nat) tl, Ls[k]? = some tl → ∃ lb so sc, lo = some ⟨lb, 0, none⟩ ∧ w.cell? ⟨lb, k, none⟩ = some (.slice so tl.length sc) ∧ ∀ (m : Nat) x, tl[m]? = some x → ∃ sb, so = some ⟨sb, 0, none⟩ ∧ w.cell? ⟨sb, m, none⟩ = some (.int .u8 x)
theorem TM.kept {w w' : World} {bb : Nat} {lo : Option Addr} {Bs : List Int} {Ls : List (List Int)} (h : TM w bb lo Bs Ls) (hb : Below w.heap.size w w') : TM w' bb lo Bs Ls := by
  refine ⟨fun i x hx => keepC hb (h.1 i x hx), fun k tl hk => ?_⟩
  obtain ⟨lb, so, sc, h1, h2, h3⟩ := h.2 k tl hk
  refine ⟨lb, so, sc, h1, keepC hb h2, fun m x hx => ?_⟩
  obtain ⟨sb, h4, h5⟩ := h3 m x hx
  exact ⟨sb, h4, keepC hb h5⟩
theorem row_cell {w : World} {base : Nat} {e : TypeId} {v : Value} {n : Nat} {xs : List Value} (h : w.ownsRow base e 1 v n xs) : ∃ ao cap, v = .slice ao n cap ∧ ∀ (i : Nat) x, xs[i]? = some x → ∃ g, ao = some ⟨g, 0, none⟩ ∧ w.cell? ⟨g, i, none⟩ = some x := by
  obtain ⟨h1, ⟨rfl, rfl⟩ | ⟨g, cap, cur, rfl, hb, hh, hn, hm, hs, ht⟩⟩ := h
  · refine ⟨none, 0, rfl, fun i x hx => ?_⟩
    have : xs = [] := List.length_eq_zero_iff.mp (by omega)
    subst this
    simp at hx
  · refine ⟨_, cap, rfl, fun i x hx => ⟨g, rfl, ?_⟩⟩
    have hi := (List.getElem?_eq_some_iff.mp hx).1
    rw [← ht, List.getElem?_take] at hx
    rw [if_pos (by omega)] at hx
    simp only [World.cell?, hh]
    simpa using hx
theorem TM.of {w0 w : World} {bv lv : Value} {Bs : List Int} {Ls : List (List Int)} {lvs : List Value} (h : TI w0 w bv lv Bs Ls lvs) (hne : Bs ≠ []) : ∃ bb bc lo lc, bv = .slice (some ⟨bb, 0, none⟩) Bs.length bc ∧ lv = .slice lo Ls.length lc ∧ TM w bb lo Bs Ls := by
  obtain ⟨ao, bc, rfl, hB⟩ := row_cell h.b
  obtain ⟨lo, lc, rfl, hL⟩ := row_cell h.l
  obtain ⟨b0, bs, rfl⟩ := List.exists_cons_of_ne_nil hne
  obtain ⟨bb, rfl, _⟩ := hB 0 (.int .u8 b0) (by simp)
  refine ⟨bb, bc, lo, lc, rfl, by rw [h.len], fun i x hx => ?_, fun k tl hk => ?_⟩
  · obtain ⟨g, e, hc⟩ := hB i (.int .u8 x) (by rw [List.getElem?_map, hx]; rfl)
    cases e
    exact hc
  · have hk2 : k < lvs.length := by rw [h.len]; exact (List.getElem?_eq_some_iff.mp hk).1
    have hx : lvs[k]? = some lvs[k] := by simp
    obtain ⟨lb, e, hc⟩ := hL k _ hx
    obtain ⟨hr, _⟩ := h.each k _ _ hx hk
    obtain ⟨so, sc, hv, hs⟩ := row_cell hr
    rw [hv] at hc
    refine ⟨lb, so, sc, e, hc, fun m x hm => ?_⟩
    exact hs m (.int .u8 x) (by rw [List.getElem?_map, hm]; rfl)

theorem AtL.idle {ch : Nat} {m tp : Int} {n k : Nat} {Bs : List Int} {Ls : List (List Int)} {f : Nat → Int} (h : AtL ch m tp n Bs Ls k f) : Rng f ∧ f 96 = 0 ∧ f 101 = 0 := by
  obtain ⟨p, ⟨c, v, j, es, _, tq⟩ | ⟨_, ctr, d, tq⟩⟩ := h
  · exact ⟨tq.r, tq.hz, tq.hwy⟩
  · exact ⟨tq.r, tq.hz, tq.hwy⟩

theorem InL.says {w : World} {g ch : Nat} {m tp : Int} {n k moved : Nat} {Bs : List Int} {Ls : List (List Int)} {f : Nat → Int} {is : Bool} {x0 x1 x2 : Int} (A : Da w g f) (hc : ch < 8) (m0 : 0 ≤ m) (m7 : m ≤ 7) (n4 : n ≤ 4) (h : InL ch m tp n Bs Ls k moved f is (x0, x1, x2)) :
    Calls Try.prog 11 #[.pointer (some ⟨g, 0, none⟩)] w (Says w (.tuple #[trV x0 x1 x2, .bool is])) := by
  obtain ⟨h1, h2⟩ := h.next m0 m7 n4
  cases is
  · obtain ⟨e, k1, k2⟩ := h2 rfl
    cases e
    exact next_none A k1 k2
  · obtain ⟨R, e, k1, k2, k3⟩ := h1 rfl
    have := next_table A R ch hc k1 k2 k3
    rw [e] at this
    exact this

set_option maxHeartbeats 8000000 in
theorem law (c m tp : Int) (lv0 : Value) (es : List (Int × Int)) (w : World) (hE : Ents w lv0 es) (hr : ∀ (i : Nat) e, es[i]? = some e → 0 ≤ e.1 ∧ e.1 ≤ 255 ∧ 0 ≤ e.2 ∧ e.2 ≤ 255) (hes : es.length ≤ 9223372036854775807)
    (c0 : -9223372036854775808 ≤ c) (c1 : c ≤ 9223372036854775807) (m0 : 0 ≤ m) (m1 : m ≤ 255) (t0 : 0 ≤ tp) (t1 : tp ≤ 255) :
    Calls Try.prog 4 #[.int .i64 c, .int .u8 m, .int .u8 tp, lv0] w (Says w (.bool true)) := by
  have AW := Lib.hid awake_any
  have HE := Lib.hid hE
  obtain ⟨ao, cp, rfl, _⟩ := hE
  by_cases hc0 : c < 0
  · clear HE
    go_enter Try.func4, Try.ntmps4
    try simp only [List.append_eq, List.cons_append, List.nil_append]
    go_wp2_with fail
    refine (AW.out _).mono ?_
    rintro e w1 ⟨rfl, hb⟩
    go_wp2_with fail
    go_ret
    exact ⟨rfl, hb⟩
  by_cases hc7 : 7 < c
  · clear HE
    go_enter Try.func4, Try.ntmps4
    try simp only [List.append_eq, List.cons_append, List.nil_append]
    go_wp2_with fail
    refine (AW.out _).mono ?_
    rintro e w1 ⟨rfl, hb⟩
    go_wp2_with fail
    go_ret
    exact ⟨rfl, hb⟩
  obtain ⟨nE, hnE⟩ : ∃ nE, es.length = nE := ⟨_, rfl⟩
  rw [hnE] at hes HE ⊢
  have HNE := Lib.hid hnE
  have hesi : (nE : Int) ≤ 9223372036854775807 := by omega
  clear hnE
  by_cases hl40 : 40 < nE
  · have hl40i : 40 < (nE : Int) := by omega
    clear HE
    go_enter Try.func4, Try.ntmps4
    try simp only [List.append_eq, List.cons_append, List.nil_append]
    go_wp2_with fail
    refine (AW.out _).mono ?_
    rintro e w1 ⟨rfl, hb⟩
    go_wp2_with fail
    go_ret
    exact ⟨rfl, hb⟩
  obtain ⟨c, rfl⟩ := Int.eq_ofNat_of_zero_le (show 0 ≤ c by omega)
  have hc : c < 8 := by omega
  have hbit : (2 : Int) ^ c % 256 = bitOf c := by
    have h : ∀ c : Fin 8, (2 : Int) ^ c.val % 256 = bitOf c.val := by decide +kernel
    exact h ⟨c, hc⟩
  have HBIT := Lib.hid hbit
  have e7 := and7 m m0 m1
  obtain ⟨mm, hmm⟩ : ∃ mm, m % 8 = mm := ⟨_, rfl⟩
  have mm0 : 0 ≤ mm := by omega
  have mm7 : mm ≤ 7 := by omega
  rw [hmm] at e7
  have lr := lenOf_rng mm
  obtain ⟨n, hn⟩ : ∃ n : Nat, (n : Int) = lenOf mm := ⟨(lenOf mm).toNat, by omega⟩
  have n1 : 1 ≤ n := by omega
  have n4 : n ≤ 4 := by omega
  have SZ := Lib.hid (fun w => size_any mm w mm0 mm7)
  rw [← hn] at SZ
  have HN := Lib.hid hn
  have TAB := Lib.hid (fun w' hw => table_any (.slice ao nE cp) es n w' hw hr (by have := HNE.out; omega) n1 n4)
  have HT0 := Lib.hid (Tq.start hc mm0 mm7 t0 t1)
  have HTR := Lib.hid (tbA_rng hc mm0 mm7 t0 t1)
  have HOK0 : Hid (OkE es) := by
    intro e he
    obtain ⟨i, hi⟩ := List.getElem?_of_mem he
    exact hr i e hi
  clear hr hbit lr hn hmm c0 c1 hc0 hc7
  have c0 : 0 ≤ (c : Int) := by omega
  have c7 : (c : Int) ≤ 7 := by omega
  have hl : (nE : Int) ≤ 40 := by omega
  go_enter Try.func4, Try.ntmps4
  try simp only [List.append_eq, List.cons_append, List.nil_append]
  go_wp2_with fail
  refine (SZ.out _).mono ?_
  rintro e w1 ⟨rfl, hb1⟩
  have HE1 := Lib.hid (Ents.kept HE.out hb1)
  have B1 := Lib.hid hb1
  clear hb1 HE
  go_wp2_with fail
  refine (TAB.out _ HE1.out).mono ?_
  rintro e w2 ⟨bv, lv, lvs, rfl, ti⟩
  have B2 := Lib.hid (B1.out.trans (ti.bel.mono B1.out.size))
  obtain ⟨Bs, hBs⟩ : ∃ Bs, tabB n es ++ [0] = Bs := ⟨_, rfl⟩
  obtain ⟨Ls, hLs⟩ : ∃ Ls, tabL n es = Ls := ⟨_, rfl⟩
  have HOK : Hid (OkE es) := HOK0
  have HF0 : Hid (Fresh n Bs Ls 0 0 es) := ⟨HOK.out, hBs.symm, hLs.symm⟩
  have hne : Bs ≠ [] := by rw [← hBs]; simp
  rw [hBs, hLs] at ti
  obtain ⟨bb, bc, lo, lc, rfl, rfl, tm⟩ := TM.of ti hne
  have TM2 := Lib.hid tm
  obtain ⟨nB, hnB⟩ : ∃ nB, Bs.length = nB := ⟨_, rfl⟩
  obtain ⟨nL, hnL⟩ : ∃ nL, Ls.length = nL := ⟨_, rfl⟩
  have hpB : 0 < nB := by rw [← hnB]; exact List.length_pos_iff.mpr hne
  rw [hnB, hnL]
  have HNB := Lib.hid hnB
  have HNL := Lib.hid hnL
  clear ti tm hBs hLs HE1 TAB B1 HNE SZ HOK HOK0 hne hnB hnL
  by_cases hbig : 30000 < nB
  · have h1 : 30000 < (nB : Int) := by omega
    go_wp2_with fail
    refine (AW.out _).mono ?_
    rintro e w3 ⟨rfl, hb⟩
    have B3 := Lib.hid (B2.out.trans (hb.mono B2.out.size))
    clear hb
    go_wp2_with fail
    go_ret
    exact ⟨rfl, B3.out⟩
  by_cases hbig2 : 600 < nL
  · have h1 : (nB : Int) ≤ 30000 := by omega
    have h2 : 600 < (nL : Int) := by omega
    go_wp2_with fail
    refine (AW.out _).mono ?_
    rintro e w3 ⟨rfl, hb⟩
    have B3 := Lib.hid (B2.out.trans (hb.mono B2.out.size))
    clear hb
    go_wp2_with fail
    go_ret
    exact ⟨rfl, B3.out⟩
  have hb1 : (nB : Int) ≤ 30000 := by omega
  have hb2 : (nL : Int) ≤ 600 := by omega
  go_wp2_with fail
  refine (new_any w2).mono ?_
  rintro e w3 ⟨g, rfl, hg, a', hb3⟩
  have A3 := Lib.hid a'
  have C3 := Lib.hid hb3
  clear a' hb3
  go_wp2_with fail
  refine (write_at A3.out c 0 hc (by omega) (by omega) mm).mono ?_
  rintro e w4 ⟨rfl, a', u'⟩
  have A4 := Lib.hid a'
  have C4 := Lib.hid (u'.out C3.out hg)
  clear a' u' A3 C3
  go_wp2_with fail
  refine (write_at A4.out c 1 hc (by omega) (by omega) tp).mono ?_
  rintro e w5 ⟨rfl, a', u'⟩
  have A5 := Lib.hid a'
  have C5 := Lib.hid (u'.out C4.out hg)
  clear a' u' A4 C4
  go_wp2_with fail
  refine (write_tab A5.out (2 ^ c % 256)).mono ?_
  rw [HBIT.out]
  rintro e w6 ⟨rfl, a', u'⟩
  have a'' : Da w6 g (tbA c mm tp) := a'
  have A6 := Lib.hid a''
  have C6 := Lib.hid (u'.out C5.out hg)
  clear a' a'' u' A5 C5
  have hta : tbA c mm tp 98 = bitOf c := by unfold tbA; rw [put1_at, if_pos rfl]
  have FR := Lib.hid (frame_any A6.out HTR.out c hc hta)
  clear hta
  go_wp2_with fail
  refine FR.out.mono ?_
  rintro e w7 ⟨rfl, a', u'⟩
  obtain ⟨f0, hf0⟩ : ∃ f0, frameF c (tbA c mm tp) = f0 := ⟨_, rfl⟩
  rw [hf0] at a' HT0
  have A7 := Lib.hid a'
  have C7 := Lib.hid (u'.out C6.out hg)
  clear a' u' A6 C6 FR HTR hf0
  have NX := Lib.hid (next_table A7.out HT0.out.r c hc HT0.out.hbf (by rw [HT0.out.hm]; omega) (by rw [HT0.out.hwy]; decide))
  rw [(HT0.out.nextT mm0 mm7).1 (by decide)] at NX
  go_wp2_with fail
  refine NX.out.mono ?_
  rintro e w8 ⟨rfl, hb8⟩
  have A8 := Lib.hid (A7.out.kept hb8)
  have C8 := Lib.hid (C7.out.trans (hb8.mono C7.out.size))
  clear hb8 A7 C7 NX
  go_wp2_with fail
  obtain ⟨W9, hW⟩ : ∃ W9, W9 = w8.alloc (.cells #[.int .u8 1, .int .u32 0, .int .u8 0] 30) := ⟨_, rfl⟩
  obtain ⟨gx, hgx⟩ : ∃ gx, gx = w8.heap.size := ⟨_, rfl⟩
  have X9 : Hid (Blk W9 gx 30 #[.int .u8 1, .int .u32 0, .int .u8 0]) := by rw [hW, hgx]; exact Blk.new _ _ _
  have A9 : Hid (Da W9 g f0) := by rw [hW]; exact A8.out.alloc _
  have C9 : Hid (Below w2.heap.size w2 W9) := by rw [hW]; exact belowA C8.out _
  have hgx' : w2.heap.size ≤ gx := by rw [hgx]; exact C8.out.size
  rw [← hW, ← hgx]
  clear hW hgx A8 C8
  have hRD := Lib.hid ((HF0.out.read (k := 0) hc (Nat.zero_le _) HT0.out (Or.inl rfl) (by have := HNB.out; omega)))
  go_loopw [13, 14] (fun x is wr => ∃ (gx : Nat) (b : Bool) (f : Nat → Int), x = .pointer (some ⟨gx, 0, none⟩) ∧ is = .bool b ∧ Da wr g f ∧ w2.heap.size ≤ gx ∧ Below w2.heap.size w2 wr ∧
    ((b = true ∧ f = f0 ∧ Blk wr gx 30 #[.int .u8 1, .int .u32 0, .int .u8 0]) ∨ (b = false ∧ AtL c mm tp n Bs Ls 0 f))) (fun _ is _ => match is with | .bool true => 1 | _ => 0)
  case atStart => exact ⟨gx, true, f0, rfl, rfl, A9.out, hgx', C9.out, Or.inl ⟨rfl, rfl, X9.out⟩⟩
  case round =>
    obtain ⟨gx, b, f, rfl, rfl, a', hgx, cc, ⟨rfl, rfl, bx⟩ | ⟨rfl, al⟩⟩ := hrel
    · obtain ⟨v, hv, v0, v1, hal⟩ := hRD.out
      have hne : g ≠ gx := by
        obtain ⟨cs, q, _⟩ := a'
        exact Blk.ne q bx (by decide)
      have A := Lib.hid a'
      have BX := Lib.hid bx
      have C := Lib.hid cc
      have AL := Lib.hid hal
      have z0 := bx.cell 0
      have z1 := bx.cell 1
      have z2 := bx.cell 2
      simp at z0 z1 z2
      have pb := keepC cc (TM2.out.1 0 v hv)
      clear a' bx cc hal hv A9 C9 X9 hRD
      go_wp2_with fail
      refine (done_entry A.out HT0.out.r c hc HT0.out.hbf HT0.out.hst (by rw [HT0.out.hm]; omega) (by rw [HT0.out.hwy]; decide) v).mono ?_
      rintro e w10 ⟨rfl, a', u'⟩
      obtain ⟨f1, hf1⟩ : ∃ f1, entF c v f = f1 := ⟨_, rfl⟩
      rw [hf1] at a' AL
      have z0 := keepU u' z0 (Ne.symm hne)
      have z1 := keepU u' z1 (Ne.symm hne)
      have z2 := keepU u' z2 (Ne.symm hne)
      have A1 := Lib.hid a'
      have C1 := Lib.hid (u'.out C.out hg)
      clear a' u' A C BX hf1 pb
      go_wp2_with fail
      obtain ⟨W9, hW⟩ : ∃ W9, W9 = w10.alloc (.cells #[.int .u8 1, .int .u32 0, .int .u8 0] 30) := ⟨_, rfl⟩
      obtain ⟨gy, hgy⟩ : ∃ gy, gy = w10.heap.size := ⟨_, rfl⟩
      have X9 : Hid (Blk W9 gy 30 #[.int .u8 1, .int .u32 0, .int .u8 0]) := by rw [hW, hgy]; exact Blk.new _ _ _
      have A9 : Hid (Da W9 g f1) := by rw [hW]; exact A1.out.alloc _
      have C9 : Hid (Below w2.heap.size w2 W9) := by rw [hW]; exact belowA C1.out _
      have hgy' : w2.heap.size ≤ gy := by rw [hgy]; exact C1.out.size
      rw [← hW, ← hgy]
      clear hW hgy A1 C1 z0 z1 z2
      refine (next_none A9.out (AtL.idle AL.out).2.1 (AtL.idle AL.out).2.2).mono ?_
      rintro e w11 ⟨rfl, hb11⟩
      have bx := X9.out.kept hb11
      have q0 := bx.frozen 0
      have q1 := bx.frozen 1
      have q2 := bx.frozen 2
      have y0 := bx.cell 0
      have y1 := bx.cell 1
      have y2 := bx.cell 2
      simp at y0 y1 y2
      have A11 := Lib.hid (A9.out.kept hb11)
      have C11 := Lib.hid (C9.out.trans (hb11.mono C9.out.size))
      have hne2 : g ≠ gy := by
        obtain ⟨cs, q, _⟩ := A11.out
        exact Blk.ne q bx (by decide)
      clear hb11 bx A9 C9 X9
      go_wp2_with fail
      have az := ((A11.out.other (p := ⟨gy, 0, none⟩) (Ne.symm hne2) (.int .u8 0)).other (p := ⟨gy, 1, none⟩) (Ne.symm hne2) (.int .u32 0)).other (p := ⟨gy, 2, none⟩) (Ne.symm hne2) (.int .u8 0)
      have CZ := belowS (belowS (belowS C11.out (p := ⟨gy, 0, none⟩) hgy' (.int .u8 0)) (p := ⟨gy, 1, none⟩) hgy' (.int .u32 0)) (p := ⟨gy, 2, none⟩) hgy' (.int .u8 0)
      exact ⟨⟨gy, false, f1, rfl, rfl, az, hgy', CZ, Or.inr ⟨rfl, AL.out⟩⟩, by decide⟩
    · have A := Lib.hid a'
      have C := Lib.hid cc
      have AL := Lib.hid al
      clear a' cc al A9 C9 X9 hRD HT0 HF0 hgx'
      go_wp2_with fail
      go_loopw [15] (fun i wr => ∃ (k : Nat) (f : Nat → Int), k ≤ nL + 1 ∧ i = .int .i64 k ∧ (k ≤ nL → Da wr g f ∧ AtL c mm tp n Bs Ls k f) ∧ Below w2.heap.size w2 wr) (fun i _ => nL + 1 - (intOf i).toNat)
      case atStart => exact ⟨0, f, by omega, rfl, fun _ => ⟨A.out, AL.out⟩, C.out⟩
      case round =>
        obtain ⟨k, f, hk, rfl, hal, cc⟩ := hrel
        have C := Lib.hid cc
        clear cc A AL
        have hki : (k : Int) ≤ 601 := by omega
        by_cases hkl : k ≤ nL
        · obtain ⟨a', al⟩ := hal hkl
          have A := Lib.hid a'
          have AL := Lib.hid al
          clear a' al hal
          by_cases hlt : k < nL
          · obtain ⟨hR, hb, hw, is0, x0, hin⟩ := AL.out.line hc HN.out n1 mm0 mm7 (by have := HNL.out; omega)
            have LI := Lib.hid (line_any A.out hR c hc hb hw)
            obtain ⟨f1, hf1⟩ : ∃ f1, linF c (lineA (bitOf c) f) = f1 := ⟨_, rfl⟩
            rw [hf1] at hin LI
            have IN := Lib.hid hin
            clear hR hb hw hin hf1 AL
            go_wp2_with fail
            refine LI.out.mono ?_
            rintro e w12 ⟨rfl, a', u'⟩
            have A1 := Lib.hid a'
            have C1 := Lib.hid (u'.out C.out hg)
            clear a' u' A C LI
            obtain ⟨x0, x1, x2⟩ := x0
            have NX := Lib.hid (InL.says A1.out hc mm0 mm7 n4 IN.out)
            go_wp2_with fail
            refine NX.out.mono ?_
            rintro e w13 ⟨rfl, hb13⟩
            have A2 := Lib.hid (A1.out.kept hb13)
            have C2 := Lib.hid (C1.out.trans (hb13.mono C1.out.size))
            clear hb13 A1 C1 NX
            go_wp2_with fail
            obtain ⟨W9, hW⟩ : ∃ W9, W9 = w13.alloc (.cells #[.int .u8 x0, .int .u32 x1, .int .u8 x2] 30) := ⟨_, rfl⟩
            obtain ⟨gy, hgy⟩ : ∃ gy, gy = w13.heap.size := ⟨_, rfl⟩
            have X9 : Hid (Blk W9 gy 30 #[.int .u8 x0, .int .u32 x1, .int .u8 x2]) := by rw [hW, hgy]; exact Blk.new _ _ _
            have A9 : Hid (Da W9 g f1) := by rw [hW]; exact A2.out.alloc _
            have C9 : Hid (Below w2.heap.size w2 W9) := by rw [hW]; exact belowA C2.out _
            have hgy' : w2.heap.size ≤ gy := by rw [hgy]; exact C2.out.size
            rw [← hW, ← hgy]
            clear hW hgy A2 C2
            go_loopw [16, 17, 18] (fun mv x is wr => ∃ (q : Nat) (gx : Nat) (b : Bool) (f : Nat → Int) (x0 x1 x2 : Int), mv = .int .i64 q ∧ x = .pointer (some ⟨gx, 0, none⟩) ∧ is = .bool b ∧ Da wr g f ∧ InL c mm tp n Bs Ls k q f b (x0, x1, x2) ∧ w2.heap.size ≤ gx ∧ Below w2.heap.size w2 wr ∧
              Blk wr gx 30 #[.int .u8 x0, .int .u32 x1, .int .u8 x2]) (fun mv _ is _ => 2 * (8 - (intOf mv).toNat) + (match is with | .bool true => 1 | _ => 0))
            case atStart => exact ⟨0, gy, is0, f1, x0, x1, x2, rfl, rfl, rfl, A9.out, IN.out, hgy', C9.out, X9.out⟩
            case round =>
              obtain ⟨q, gx, b, f, x0, x1, x2, rfl, rfl, rfl, a', hin, hgx, cc, bx⟩ := hrel
              have A := Lib.hid a'
              have IN1 := Lib.hid hin
              have C := Lib.hid cc
              have BX := Lib.hid bx
              have hne : g ≠ gx := by
                obtain ⟨cs, q, _⟩ := a'
                exact Blk.ne q bx (by decide)
              clear a' hin cc bx A9 X9 C9 IN
              cases b
              · obtain ⟨al, tl, h1, h2⟩ := IN1.out.over
                obtain ⟨lb, so, sc, rfl, p1, p2⟩ := TM2.out.2 k tl h1
                have pk := keepC C.out p1
                have AL := Lib.hid al
                obtain ⟨nt, hnt⟩ : ∃ nt, tl.length = nt := ⟨_, rfl⟩
                rw [hnt] at pk h2
                subst h2
                clear al p1 p2 h1 hnt IN1
                have hkn : (k : Int) < (nL : Int) := by omega
                go_wp2_with fail
                exact ⟨⟨k + 1, f, by omega, by go_num, fun _ => ⟨A.out, AL.out⟩, C.out⟩, by simp [intOf]; omega⟩
              · obtain ⟨P, v, tl, h1, h2, h3, h4, h5, h6, h7, hcase⟩ := IN1.out.done hc HN.out n4 (by have := HNB.out; omega)
                simp only at h1
                subst h1
                rw [HNB.out] at h2
                obtain ⟨lb, so, sc, rfl, p1, p2⟩ := TM2.out.2 k tl h7
                have pk := keepC C.out p1
                have pb := keepC C.out (TM2.out.1 P v h3)
                have z0 := BX.out.cell 0
                have z1 := BX.out.cell 1
                have z2 := BX.out.cell 2
                simp at z0 z1 z2
                have HC := Lib.hid hcase
                have hPi : (P : Int) < (nB : Int) := by omega
                have hkn : (k : Int) < (nL : Int) := by omega
                have t1 : ((k : Int) == (nL : Int)) = false := by simp; omega
                have t2 : ¬ (nB : Int) ≤ (P : Int) := by omega
                have t3 : (P : Int) ≤ 30000 := by omega
                clear hcase p1
                rcases HC.out with ⟨rfl, g1, g2, g3, rfl, g5, is', x', g6⟩ | ⟨rfl, g1, g2, x', g3⟩
                · have RR := Lib.hid (IN1.out.next mm0 mm7 n4 |>.1 rfl)
                  obtain ⟨f1, hf1⟩ : ∃ f1, uniF c f = f1 := ⟨_, rfl⟩
                  rw [hf1] at g6
                  have HF1 := Lib.hid hf1
                  obtain ⟨y0', y1', y2'⟩ := x'
                  have IN2 := Lib.hid g6
                  obtain ⟨sb, rfl, p3⟩ := p2 q v g3
                  have pm := keepC C.out p3
                  obtain ⟨nt, hnt⟩ : ∃ nt, tl.length = nt := ⟨_, rfl⟩
                  rw [hnt] at pk g1 g2
                  have g1i : (q : Int) < (nt : Int) := by omega
                  have g2i : (nt : Int) ≤ 4 := by omega
                  have PT := Lib.hid (fun w => port_any mm q w mm0 (by omega) (by omega))
                  have pr := patOf_rng mm q
                  obtain ⟨pq, hpq⟩ : ∃ pq, patOf mm q = pq := ⟨_, rfl⟩
                  rw [hpq] at PT pr z2
                  rw [hpq] at BX
                  obtain ⟨pq0, pq1⟩ := pr
                  have ew : IntKind.u8.wrap (tp + pq) = (tp + pq) % 256 := by rw [IntKind.wrap_u8]
                  have l1 := World.block_lt_of_cell? _ _ pk
                  have l2 := World.block_lt_of_cell? _ _ pm
                  have l3 := World.block_lt_of_cell? _ _ pb
                  have l4 := World.block_lt_of_cell? _ _ z0
                  simp only at l1 l2 l3 l4
                  have t4 : ¬ (nt : Int) ≤ (q : Int) := by omega
                  clear HC IN1 g6 hf1 h3 h7 p2 p3 hnt hpq
                  go_upto_region 32 with (fail)
                  go_cut [164] from 133 to 164 (fun s wx => s = .bool false ∧ Below wr.heap.size wr wx)
                  case first =>
                    refine wp_region_more (by kernel_rfl) (by kernel_rfl) ?_
                    repeat (go_big_quiet_step ((first
                      | (go_at_call 13; exact quiet_more (PT.out _)))))
                    refine wpQuiet_nil ?_
                    rintro _ ⟨nq, rfl⟩
                    go_wp2_with fail
                    go_meet
                    exact ⟨by simp, below_more _⟩
                  case rest =>
                    obtain ⟨rfl, hbc⟩ := hcut
                    have z0 := keepC hbc z0
                    have z1 := keepC hbc z1
                    have z2 := keepC hbc z2
                    have pb := keepC hbc pb
                    have A0 := Lib.hid (A.out.kept hbc)
                    have C0 := Lib.hid (C.out.trans (hbc.mono C.out.size))
                    have DN := Lib.hid (done_unit A0.out RR.out.1 c hc RR.out.2.2.1 g5 RR.out.2.2.2.1 RR.out.2.2.2.2 v)
                    rw [HF1.out] at DN
                    clear hbc A C BX pk pm PT l1 l2 l3 l4 t4 t1 t2 ew
                    go_wp2_with fail
                    refine DN.out.mono ?_
                    rintro e w20 ⟨rfl, a', u'⟩
                    have z0 := keepU u' z0 (Ne.symm hne)
                    have z1 := keepU u' z1 (Ne.symm hne)
                    have z2 := keepU u' z2 (Ne.symm hne)
                    have A1 := Lib.hid a'
                    have C1 := Lib.hid (u'.out C0.out hg)
                    clear a' u' A0 C0 pb DN
                    go_wp2_with fail
                    obtain ⟨W9, hW⟩ : ∃ W9, W9 = w20.alloc (.cells #[.int .u8 2, .int .u32 P, .int .u8 ((tp + pq) % 256)] 30) := ⟨_, rfl⟩
                    obtain ⟨gy, hgy⟩ : ∃ gy, gy = w20.heap.size := ⟨_, rfl⟩
                    have X9 : Hid (Blk W9 gy 30 #[.int .u8 2, .int .u32 P, .int .u8 ((tp + pq) % 256)]) := by rw [hW, hgy]; exact Blk.new _ _ _
                    have A9 : Hid (Da W9 g f1) := by rw [hW]; exact A1.out.alloc _
                    have C9 : Hid (Below w2.heap.size w2 W9) := by rw [hW]; exact belowA C1.out _
                    have hgy' : w2.heap.size ≤ gy := by rw [hgy]; exact C1.out.size
                    rw [← hW, ← hgy]
                    clear hW hgy A1 C1 z0 z1 z2
                    refine (InL.says A9.out hc mm0 mm7 n4 IN2.out).mono ?_
                    rintro e w21 ⟨rfl, hb21⟩
                    have bx := X9.out.kept hb21
                    have q0 := bx.frozen 0
                    have q1 := bx.frozen 1
                    have q2 := bx.frozen 2
                    have y0 := bx.cell 0
                    have y1 := bx.cell 1
                    have y2 := bx.cell 2
                    simp at y0 y1 y2
                    have BX2 := Lib.hid bx
                    have A11 := Lib.hid (A9.out.kept hb21)
                    have C11 := Lib.hid (C9.out.trans (hb21.mono C9.out.size))
                    have hne2 : g ≠ gy := by
                      obtain ⟨cs, q, _⟩ := A11.out
                      exact Blk.ne q bx (by decide)
                    clear hb21 bx A9 C9 X9
                    go_wp2_with fail
                    have bz := ((BX2.out.set_ 0 (.int .u8 y0')).set_ 1 (.int .u32 y1')).set_ 2 (.int .u8 y2')
                    have az := ((A11.out.other (p := ⟨gy, 0, none⟩) (Ne.symm hne2) (.int .u8 y0')).other (p := ⟨gy, 1, none⟩) (Ne.symm hne2) (.int .u32 y1')).other (p := ⟨gy, 2, none⟩) (Ne.symm hne2) (.int .u8 y2')
                    have CZ := belowS (belowS (belowS C11.out (p := ⟨gy, 0, none⟩) hgy' (.int .u8 y0')) (p := ⟨gy, 1, none⟩) hgy' (.int .u32 y1')) (p := ⟨gy, 2, none⟩) hgy' (.int .u8 y2')
                    exact ⟨⟨q + 1, gy, is', f1, y0', y1', y2', rfl, rfl, rfl, az, IN2.out, hgy', CZ, by simpa using bz⟩, by simp [intOf]; cases is' <;> simp <;> omega⟩
                · have DN := Lib.hid (done_entry A.out (IN1.out.next mm0 mm7 n4 |>.1 rfl).1 c hc (IN1.out.next mm0 mm7 n4 |>.1 rfl).2.2.1 g2 (IN1.out.next mm0 mm7 n4 |>.1 rfl).2.2.2.1 (IN1.out.next mm0 mm7 n4 |>.1 rfl).2.2.2.2 v)
                  obtain ⟨f1, hf1⟩ : ∃ f1, entF c v f = f1 := ⟨_, rfl⟩
                  rw [hf1] at DN g3
                  obtain ⟨y0', y1', y2'⟩ := x'
                  have IN2 := Lib.hid g3
                  clear HC IN1 g3 hf1 h3 h7 p2 pk
                  go_wp2_with fail
                  refine DN.out.mono ?_
                  rintro e w20 ⟨rfl, a', u'⟩
                  have z0 := keepU u' z0 (Ne.symm hne)
                  have z1 := keepU u' z1 (Ne.symm hne)
                  have z2 := keepU u' z2 (Ne.symm hne)
                  have A1 := Lib.hid a'
                  have C1 := Lib.hid (u'.out C.out hg)
                  clear a' u' A C BX pb DN
                  go_wp2_with fail
                  obtain ⟨W9, hW⟩ : ∃ W9, W9 = w20.alloc (.cells #[.int .u8 1, .int .u32 P, .int .u8 x2] 30) := ⟨_, rfl⟩
                  obtain ⟨gy, hgy⟩ : ∃ gy, gy = w20.heap.size := ⟨_, rfl⟩
                  have X9 : Hid (Blk W9 gy 30 #[.int .u8 1, .int .u32 P, .int .u8 x2]) := by rw [hW, hgy]; exact Blk.new _ _ _
                  have A9 : Hid (Da W9 g f1) := by rw [hW]; exact A1.out.alloc _
                  have C9 : Hid (Below w2.heap.size w2 W9) := by rw [hW]; exact belowA C1.out _
                  have hgy' : w2.heap.size ≤ gy := by rw [hgy]; exact C1.out.size
                  rw [← hW, ← hgy]
                  clear hW hgy A1 C1 z0 z1 z2
                  refine (InL.says A9.out hc mm0 mm7 n4 IN2.out).mono ?_
                  rintro e w21 ⟨rfl, hb21⟩
                  have bx := X9.out.kept hb21
                  have q0 := bx.frozen 0
                  have q1 := bx.frozen 1
                  have q2 := bx.frozen 2
                  have y0 := bx.cell 0
                  have y1 := bx.cell 1
                  have y2 := bx.cell 2
                  simp at y0 y1 y2
                  have BX2 := Lib.hid bx
                  have A11 := Lib.hid (A9.out.kept hb21)
                  have C11 := Lib.hid (C9.out.trans (hb21.mono C9.out.size))
                  have hne2 : g ≠ gy := by
                    obtain ⟨cs, q, _⟩ := A11.out
                    exact Blk.ne q bx (by decide)
                  clear hb21 bx A9 C9 X9
                  go_wp2_with fail
                  have bz := ((BX2.out.set_ 0 (.int .u8 y0')).set_ 1 (.int .u32 y1')).set_ 2 (.int .u8 y2')
                  have az := ((A11.out.other (p := ⟨gy, 0, none⟩) (Ne.symm hne2) (.int .u8 y0')).other (p := ⟨gy, 1, none⟩) (Ne.symm hne2) (.int .u32 y1')).other (p := ⟨gy, 2, none⟩) (Ne.symm hne2) (.int .u8 y2')
                  have CZ := belowS (belowS (belowS C11.out (p := ⟨gy, 0, none⟩) hgy' (.int .u8 y0')) (p := ⟨gy, 1, none⟩) hgy' (.int .u32 y1')) (p := ⟨gy, 2, none⟩) hgy' (.int .u8 y2')
                  exact ⟨⟨q, gy, false, f1, y0', y1', y2', rfl, rfl, rfl, az, IN2.out, hgy', CZ, by simpa using bz⟩, by simp [intOf]⟩
          · have hkn : k = nL := by omega
            subst hkn
            have hal := AL.out
            rw [← HNL.out] at hal
            obtain ⟨p, ctr, d, tq⟩ := AtL.ends hal
            obtain ⟨o1, o2, o3, o4⟩ := tq.over hc
            have LI := Lib.hid (line_none A.out o1 o2)
            obtain ⟨f1, hf1⟩ : ∃ f1, endF (lineA 0 f) = f1 := ⟨_, rfl⟩
            rw [hf1] at LI o3 o4
            have O3 := Lib.hid o3
            have O4 := Lib.hid o4
            clear hal tq o1 o2 o3 o4 hf1 AL
            go_wp2_with fail
            refine LI.out.mono ?_
            rintro e w12 ⟨rfl, a', u'⟩
            have A1 := Lib.hid a'
            have C1 := Lib.hid (u'.out C.out hg)
            clear a' u' A C LI
            go_wp2_with fail
            refine (next_none A1.out O3.out O4.out).mono ?_
            rintro e w13 ⟨rfl, hb13⟩
            have C2 := Lib.hid (C1.out.trans (hb13.mono C1.out.size))
            clear hb13 C1 A1
            go_wp2_with fail
            obtain ⟨W9, hW⟩ : ∃ W9, W9 = w13.alloc (.cells #[.int .u8 0, .int .u32 0, .int .u8 0] 30) := ⟨_, rfl⟩
            have C9 : Hid (Below w2.heap.size w2 W9) := by rw [hW]; exact belowA C2.out _
            rw [← hW]
            clear hW C2
            go_loopw [18] (fun is wr => is = .bool false ∧ Below w2.heap.size w2 wr) (fun _ _ => 0)
            case atStart => exact ⟨rfl, C9.out⟩
            case round =>
              obtain ⟨rfl, cc⟩ := hrel
              have C := Lib.hid cc
              clear cc C9
              go_wp2_with fail
              exact ⟨⟨k + 1, f1, by omega, by go_num, fun h => absurd h (by omega), C.out⟩, by simp [intOf]⟩
        · have hkn : k = nL + 1 := by omega
          subst hkn
          have C2 := Lib.hid (B2.out.trans (C.out.mono B2.out.size))
          clear hal C
          go_wp2_with fail
          refine (AW.out _).mono ?_
          rintro e w14 ⟨rfl, hb14⟩
          have C3 := Lib.hid (C2.out.trans (hb14.mono C2.out.size))
          clear hb14 C2
          go_wp2_with fail
          go_ret
          exact ⟨rfl, C3.out⟩
open Go.ChangeShapes Go.WideShapes Go.ChangeAt
theorem walk (H : Type) (enc : TypeId × Value → H) (W : World) (base : Nat) (v0 v1 v2 v3 : Value) {d0 d1 d2 d3 : DataW H} {p0 p1 p2 p3 : List MemPlace}
    (k0 : Value.okWide Try.prog W .any base 3 v0) (h0 : DataW.Trod enc Try.prog W 0 (fun _ => true) true 3 v0 d0 p0)
    (k1 : Value.okWide Try.prog W .any base 5 v1) (h1 : DataW.Trod enc Try.prog W 0 (fun _ => true) true 5 v1 d1 p1)
    (k2 : Value.okWide Try.prog W .any base 5 v2) (h2 : DataW.Trod enc Try.prog W 0 (fun _ => true) true 5 v2 d2 p2)
    (k3 : Value.okWide Try.prog W .any base 39 v3) (h3 : DataW.Trod enc Try.prog W 0 (fun _ => true) true 39 v3 d3 p3) :
    Calls Try.prog 4 #[v0, v1, v2, v3] W fun e w' => e = .returned (.bool true) ∧ Below W.heap.size W w' := by
  obtain ⟨c, rfl, rfl, rfl, w0⟩ := open_int Try.underlying3 k0 h0
  have b0 := wf_i64 w0
  obtain ⟨m, rfl, rfl, rfl, w1⟩ := open_int Try.underlying5 k1 h1
  have b1 := wf_u8 w1
  obtain ⟨tp, rfl, rfl, rfl, w2⟩ := open_int Try.underlying5 k2 h2
  have b2 := wf_u8 w2
  obtain ⟨n, f0, f1, ⟨ao, cp, rfl, hS⟩, hn, hwf⟩ := openTwo Try.underlying39 Try.underlying81 (by kernel_rfl) rfl rfl (by kernel_rfl) (by kernel_rfl) Try.underlying5 Try.underlying5 k3 h3
  have hlen : ((List.range n).map fun j => (f0 j, f1 j)).length = n := by simp
  have hat : ∀ (i : Nat) e, ((List.range n).map fun j => (f0 j, f1 j))[i]? = some e → i < n ∧ e = (f0 i, f1 i) := by
    intro i e he
    have hi := (List.getElem?_eq_some_iff.mp he).1
    rw [hlen] at hi
    refine ⟨hi, ?_⟩
    simp [hi] at he
    exact he.symm
  have hE : Ents W (.slice ao n cp) ((List.range n).map fun j => (f0 j, f1 j)) := by
    refine ⟨ao, cp, by rw [hlen], ?_⟩
    rcases hS with rfl | ⟨b, off, e, h⟩
    · exact Or.inl rfl
    · refine Or.inr ⟨b, off, e, fun i x hx => ?_⟩
      obtain ⟨hi, rfl⟩ := hat i x hx
      exact h i hi
  refine law c m tp (.slice ao n cp) _ W hE (fun i e he => ?_) (by rw [hlen]; exact hn) b0.1 b0.2 b1.1 b1.2 b2.1 b2.2
  obtain ⟨hi, rfl⟩ := hat i e he
  obtain ⟨q0, q1⟩ := hwf i hi
  have r0 := wf_u8 q0
  have r1 := wf_u8 q1
  exact ⟨r0.1, r0.2, r1.1, r1.2⟩
end Go.Proofs.Ytkeikkkcmackeaa.dmaTables
