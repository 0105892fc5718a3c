/- The document's New. -/
import Derived.Test.YtfigepnpegnhkaaClkS
import Derived.StillTailTactics
import Derived.Deep.RegionLaw
import Derived.Deep.CutBlock
import Derived.Deep.Cut
namespace Go.Proofs.Ytfigepnpegnhkaa
open Go.RowKit
set_option linter.unusedVariables false
set_option linter.unusedSimpArgs false
set_option maxRecDepth 100000
abbrev nilV : Value := .agg #[.slice none 0 0, .slice none 0 0]
def RNewP (W : World) (n : Nat) (f : Nat → Int) (e : Ending) (w' : World) : Prop :=
  (∃ c : Int, c ≠ 0 ∧ newR n f c ∧ e = .returned (.tuple #[nilV, .int .i64 c]) ∧ Below W.heap.size W w') ∨
  (scOk n f ∧ ∃ bs cs bt ct, e = .returned (.tuple #[rkV bs cs bt ct n, .int .i64 0]) ∧ W.heap.size ≤ bs ∧ W.heap.size ≤ bt ∧ Rk w' bs bt n f (fun _ => 0) ∧ Below W.heap.size W w')
theorem infoCk : (Try.prog.info? 48).map (fun i => (i.zero, i.size)) = some (some nilV, 2) := by kernel_rfl
theorem ownGrown {w w' : World} {base n z : Nat} {e : TypeId} {v : Value} {xs : List Value} {row : Option Nat} (h : w.ownsRow base e z v n xs) (hg : w.grownBy w' row) (hne : v.ownBlock = none ∨ v.ownBlock ≠ row) : w'.ownsRow base e z v n xs := by
  obtain ⟨h1, h2 | ⟨g', cap, cur, e, h3, h4, r⟩⟩ := h
  · exact ⟨h1, Or.inl h2⟩
  · subst e
    have hn : (Value.slice (some ⟨g', 0, none⟩) n cap).ownBlock = some g' := rfl
    have hlt : g' < w.heap.size := (Array.getElem?_eq_some_iff.1 h4).1
    refine ⟨h1, Or.inr ⟨g', cap, cur, rfl, h3, (hg.block g' hlt (fun e => ?_)).trans h4, r⟩⟩
    rcases hne with h | h
    · rw [hn] at h; cases h
    · exact h (by rw [hn]; exact e)
/-- Two blocks that are not the same. -/
def Dj (a b : Option Nat) : Prop := a = none ∨ b = none ∨ a ≠ b
/-- Two rows that grow, told of in block G. -/
structure N2 (w : World) (G : Nat) (f : Nat → Int) (k1 k2 : Nat) (s1 s2 : Value) : Prop where
  bk : Blk w G 48 #[s1, s2]
  o1 : w.ownsRow (G + 1) 2 1 s1 k1 (rowN f k1)
  o2 : w.ownsRow (G + 1) 2 1 s2 k2 (rowN (fun _ => 0) k2)
  dj : Dj s1.ownBlock s2.ownBlock
theorem N2.drew {w : World} {G : Nat} {f : Nat → Int} {k1 k2 : Nat} {s1 s2 : Value} (h : N2 w G f k1 k2 s1 s2) : N2 w.drew G f k1 k2 s1 s2 := ⟨h.bk, h.o1, h.o2, h.dj⟩
theorem N2.alloc {w : World} {G : Nat} {f : Nat → Int} {k1 k2 : Nat} {s1 s2 : Value} (h : N2 w G f k1 k2 s1 s2) (o : Obj) : N2 (w.alloc o) G f k1 k2 s1 s2 :=
  ⟨h.bk.alloc o, ownsKept h.o1 (belowA (Below.refl _ _) o), ownsKept h.o2 (belowA (Below.refl _ _) o), h.dj⟩
theorem Dj.ne {a b : Option Nat} (h : Dj a b) : b = none ∨ b ≠ a := by
  cases b with
  | none => exact Or.inl rfl
  | some g =>
    refine Or.inr (fun e => ?_)
    subst e
    rcases h with h | h | h
    · cases h
    · cases h
    · exact h rfl
theorem blk_grown {w w' : World} {G : Nat} {t : TypeId} {cs : Array Value} {row : Option Nat} (h : Blk w G t cs) (hg : w.grownBy w' row) (hne : some G ≠ row) : Blk w' G t cs := (hg.block G h.lt hne).trans h
theorem own_ne {w : World} {G n z : Nat} {e : TypeId} {v : Value} {xs : List Value} (h : w.ownsRow (G + 1) e z v n xs) : some G ≠ v.ownBlock := fun e => by
  have := own_base2 h e.symm; omega
theorem own_lt {w : World} {base n z : Nat} {e : TypeId} {v : Value} {xs : List Value} (h : w.ownsRow base e z v n xs) {g : Nat} (hg : v.ownBlock = some g) : g < w.heap.size := by
  obtain ⟨h1, h2 | ⟨g', cap, cur, e, h3, h4, _⟩⟩ := h
  · obtain ⟨h2, _⟩ := h2; subst h2; simp [Value.ownBlock] at hg
  · subst e
    have : g' = g := by simpa [Value.ownBlock] using hg
    subst this
    exact (Array.getElem?_eq_some_iff.1 h4).1
theorem Dj.grow {w : World} {base n z : Nat} {e : TypeId} {v2 : Value} {xs : List Value} {a a' : Option Nat} (h : Dj a v2.ownBlock) (h2 : w.ownsRow base e z v2 n xs) (ha : a' = a ∨ a' = some w.heap.size) : Dj a' v2.ownBlock := by
  rcases ha with rfl | rfl
  · exact h
  · cases hv : v2.ownBlock with
    | none => exact Or.inr (Or.inl rfl)
    | some g2 =>
      have := own_lt h2 hv
      exact Or.inr (Or.inr (fun e => by injection e with e; omega))
theorem Dj.symm {a b : Option Nat} (h : Dj a b) : Dj b a := by
  rcases h with h | h | h
  · exact Or.inr (Or.inl h)
  · exact Or.inl h
  · exact Or.inr (Or.inr (Ne.symm h))
theorem N2.fst {w w' : World} {G : Nat} {f : Nat → Int} {k1 k2 : Nat} {s1 s2 v' : Value} (h : N2 w G f k1 k2 s1 s2) (own : w'.ownsRow (G + 1) 2 1 v' (k1 + 1) (rowN f (k1 + 1))) (hg : w.grownBy w' s1.ownBlock) (hat : v'.ownBlock = s1.ownBlock ∨ v'.ownBlock = some w.heap.size) :
    N2 (w'.setCell ⟨G, 0, none⟩ v') G f (k1 + 1) k2 v' s2 :=
  ⟨(blk_grown h.bk hg (own_ne h.o1)).set_ 0 v', ownsSet own (by show G < G + 1; omega) _, ownsSet (ownGrown h.o2 hg h.dj.ne) (by show G < G + 1; omega) _, h.dj.grow h.o2 hat⟩
theorem N2.snd {w w' : World} {G : Nat} {f : Nat → Int} {k1 k2 : Nat} {s1 s2 v' : Value} (h : N2 w G f k1 k2 s1 s2) (own : w'.ownsRow (G + 1) 2 1 v' (k2 + 1) (rowN (fun _ => 0) (k2 + 1))) (hg : w.grownBy w' s2.ownBlock) (hat : v'.ownBlock = s2.ownBlock ∨ v'.ownBlock = some w.heap.size) :
    N2 (w'.setCell ⟨G, 1, none⟩ v') G f k1 (k2 + 1) s1 v' :=
  ⟨(blk_grown h.bk hg (own_ne h.o2)).set_ 1 v', ownsSet (ownGrown h.o1 hg h.dj.symm.ne) (by show G < G + 1; omega) _, ownsSet own (by show G < G + 1; omega) _, (h.dj.symm.grow h.o1 hat).symm⟩
theorem step_own_at {P : Program} {ops : Array Oper} {o : Oper} {a : Act} {w : World} {K : Act → World → Prop} {Q : Exit → Act → World → Prop} {E : Prop}
    (hg : o.guard = none) (s x : Operand) (t : TypeId) (hop : o.op = Op.call { callee := Callee.builtin Builtin.append, args := #[s, x], argTypes := #[t, t] })
    (base : Nat) (e : TypeId) (i : TypeInfo) (z : Value) (size bytes : Nat) (ht : P.underlying t = some (.slice e)) (hi : P.info? e = some i) (hz : i.zero = some z)
    (hsize : i.size = size) (hby : i.bytes = bytes) (hzs : z.cells.size = size) (hsz : 0 < size)
    (v : Value) (n : Nat) (xs : List Value) (hs : a.eval s = v) (hown : w.ownsRow base e size v n xs)
    (ad : Addr) (m c : Nat) (news : List Value) (hx : a.eval x = .slice (some ad) m c) (hl : news.length = m * size) (hnews : ∀ j u, news[j]? = some u → w.cell? (ad.add j) = some u) (h1 : ∀ u ∈ news, u.oneCell' = true)
    (h63 : n + m ≤ maxLen) (hbytes : (n + m) * bytes ≤ 140737488355328) (hbase : base ≤ w.heap.size)
    (h : ∀ v' w', w'.ownsRow base e size v' (n + m) (xs ++ news) → w.grownBy w' v.ownBlock → (v'.ownBlock = v.ownBlock ∨ v'.ownBlock = some w.heap.size) → K (a.put o.dst v') w') :
    if Region.wanted o (yielded ops a.tmps) = true then Oper.wp P o a w K Q else E := by
  have hw : Region.wanted o (yielded ops a.tmps) = true := by simp [Region.wanted, hg]
  rw [if_pos hw]
  obtain ⟨v', w', hr, h2, h3, _, h5⟩ := run_append_own_at (P := P) w base t o.type e i z size bytes ht hi hz hsize hby hzs hsz v n xs hown ad m c news hl hnews h1 h63 hbytes hbase
  unfold Oper.wp
  simp [execOp, hop, resolve, invoke, builtin, hs, hx, hr, Result.andThen]
  exact h v' w' h2 h3 h5
set_option maxHeartbeats 4000000 in
theorem rnew_any (v : Value) (n : Nat) (f : Nat → Int) (w : World) (Sv : Sees w .i64 v n f) (hn44 : n ≤ 17592186044416) : Calls Try.prog 21 #[v] w (RNewP w n f) := by
  obtain ⟨i0, hi, hz0, hz1, hz2⟩ := info_parts infoI64
  obtain ⟨ao, c, rfl, hs⟩ := Sv
  go_enter Try.func21, Try.ntmps21
  try simp only [List.append_eq, List.cons_append, List.nil_append]
  go_upto_region 1 with (fail)
  obtain ⟨W1, hW⟩ : ∃ W1, w.alloc (.cells #[.slice none 0 0, .slice none 0 0] 48) = W1 := ⟨_, rfl⟩
  obtain ⟨B, hB⟩ : ∃ B, w.heap.size = B := ⟨_, rfl⟩
  have bw : Below w.heap.size w W1 := by rw [← hW]; exact belowA (Below.refl _ _) _
  have BK : Blk W1 B 48 #[.slice none 0 0, .slice none 0 0] := by rw [← hW, ← hB]; exact Blk.new _ _ _
  rw [hW, hB]
  have x0 := BK.cell 0
  have x1 := BK.cell 1
  have y0 := BK.frozen 0
  have y1 := BK.frozen 1
  have BKH := Lib.hid BK
  have HS := Lib.hid hs
  have BW := Lib.hid bw
  have HB := Lib.hid (show w.heap.size ≤ B by omega)
  have NIL : Hid (∀ wr, Blk wr B 48 #[.slice none 0 0, .slice none 0 0] → ∀ x : Value, wr.cell? ⟨B, 0, none⟩ = some (.slice none 0 0) ∧ wr.cell? ⟨B, 1, none⟩ = some (.slice none 0 0) ∧ wr.frozen? ⟨B, 0, none⟩ = false ∧ wr.frozen? ⟨B, 1, none⟩ = false ∧ (wr.setCell ⟨B, 0, none⟩ (.slice none 0 0)).cell? ⟨B, 1, none⟩ = some (.slice none 0 0) ∧
      ((wr.setCell ⟨B, 0, none⟩ (.slice none 0 0)).setCell ⟨B, 1, none⟩ (.slice none 0 0)).cell? ⟨B, 0, none⟩ = some (.slice none 0 0) ∧ ((wr.setCell ⟨B, 0, none⟩ (.slice none 0 0)).setCell ⟨B, 1, none⟩ (.slice none 0 0)).cell? ⟨B, 1, none⟩ = some (.slice none 0 0)) := Lib.hid (fun wr bk x => by
    have a := (bk.set_ 0 (.slice none 0 0)).cell 1
    have b := ((bk.set_ 0 (.slice none 0 0)).set_ 1 (.slice none 0 0)).cell 0
    have c := ((bk.set_ 0 (.slice none 0 0)).set_ 1 (.slice none 0 0)).cell 1
    exact ⟨bk.cell 0, bk.cell 1, bk.frozen 0, bk.frozen 1, a, b, c⟩)
  clear hW hB bw BK hs x0 x1 y0 y1
  by_cases n0 : n = 0
  · subst n0
    obtain ⟨a0, a1, a2, a3, a4, a5, a6⟩ := NIL.out W1 BKH.out undef
    go_wp2_with fail
    exact bodyPost_ret (v := .tuple #[nilV, .int .i64 2]) (by simp [results, Try.results21, go_sem, a5, a6]) rfl (Or.inl ⟨2, by decide, Or.inl ⟨rfl, rfl⟩, rfl, belowS (belowS BW.out (p := ⟨B, 0, none⟩) HB.out _) (p := ⟨B, 1, none⟩) HB.out _⟩)
  have q0 : ((n : Int) == 0) = false := by rw [beq_eq_false_iff_ne]; omega
  by_cases n16 : 16 < n
  · have q1 : decide (16 < (n : Int)) = true := decide_eq_true (by omega)
    have HN := Lib.hid n16
    obtain ⟨a0, a1, a2, a3, a4, a5, a6⟩ := NIL.out W1 BKH.out undef
    clear n16 n0
    go_wp2_with fail
    exact bodyPost_ret (v := .tuple #[nilV, .int .i64 4]) (by simp [results, Try.results21, go_sem, a5, a6]) rfl (Or.inl ⟨4, by decide, Or.inr (Or.inl ⟨HN.out, rfl⟩), rfl, belowS (belowS BW.out (p := ⟨B, 0, none⟩) HB.out _) (p := ⟨B, 1, none⟩) HB.out _⟩)
  have q1 : decide (16 < (n : Int)) = false := decide_eq_false (by omega)
  have h16 : n ≤ 16 := by omega
  have h1 : 1 ≤ n := by omega
  clear n0 n16
  obtain ⟨b, off, rfl, hc⟩ := HS.out.resolve_left (by omega)
  have HC := Lib.hid (fun j (hj : j < n) => keepC BW.out (hc j hj))
  clear hc HS
  go_wp2_with fail
  go_loopw [4, 5] (fun l i wr => ∃ (k : Nat) (L : Bool), k ≤ n ∧ i = .int .i64 k ∧ l = .bool L ∧ (L = true ↔ ∃ j, j < k ∧ 16777216 < f j) ∧ (∀ j, j < k → 1 ≤ f j) ∧ W1 = wr) (fun _ i _ => n - (intOf i).toNat)
  case atStart => exact ⟨0, false, by omega, rfl, rfl, ⟨fun h => absurd h (by decide), fun ⟨j, hj, _⟩ => absurd hj (by omega)⟩, fun j hj => absurd hj (by omega), by first | rfl | trivial⟩
  case round =>
    obtain ⟨k, L, hk, rfl, rfl, hL, h1k, rfl⟩ := hrel
    have HL := Lib.hid hL
    have H1 := Lib.hid h1k
    clear hL h1k
    by_cases hlt : k < n
    · have zk : (k : Int) < n := by omega
      have c1 := HC.out k hlt
      obtain ⟨x, hx⟩ : ∃ x, f k = x := ⟨_, rfl⟩
      rw [hx] at c1
      have HX := Lib.hid hx
      clear hx
      by_cases x1 : x < 1
      · have d1 : decide (x < 1) = true := decide_eq_true x1
        have R2 : Hid (newR n f 2) := Lib.hid (Or.inr (Or.inr (Or.inl ⟨h1, h16, ⟨k, hlt, by rw [HX.out]; exact x1⟩, rfl⟩)))
        obtain ⟨a0, a1, a2, a3, a4, a5, a6⟩ := NIL.out W1 BKH.out undef
        go_wp2_with fail
        exact bodyPost_ret (v := .tuple #[nilV, .int .i64 2]) (by simp [results, Try.results21, go_sem, a5, a6]) rfl (Or.inl ⟨2, by decide, R2.out, rfl, belowS (belowS BW.out (p := ⟨B, 0, none⟩) HB.out _) (p := ⟨B, 1, none⟩) HB.out _⟩)
      · have d1 : decide (x < 1) = false := decide_eq_false x1
        have N1 : Hid (∀ j, j < k + 1 → 1 ≤ f j) := Lib.hid (fun j hj => by
          by_cases e : j = k
          · subst e; rw [HX.out]; omega
          · exact H1.out j (by omega))
        have NL : Hid (∀ L', (L' = true ↔ L = true ∨ 16777216 < x) → (L' = true ↔ ∃ j, j < k + 1 ∧ 16777216 < f j)) := Lib.hid (fun L' h => by
          rw [h, HL.out]
          constructor
          · rintro (⟨j, hj, h2⟩ | h2)
            · exact ⟨j, by omega, h2⟩
            · exact ⟨k, by omega, by rw [HX.out]; exact h2⟩
          · rintro ⟨j, hj, h2⟩
            by_cases e : j = k
            · subst e; rw [HX.out] at h2; exact Or.inr h2
            · exact Or.inl ⟨j, by omega, h2⟩)
        cases L
        · by_cases x2 : 16777216 < x
          · have d2 : decide (16777216 < x) = true := decide_eq_true x2
            have NL2 := Lib.hid (NL.out true (by simp [x2]))
            go_wp2_with fail
            go_roundw
            case rel => exact ⟨k + 1, true, by omega, by go_num, rfl, NL2.out, N1.out, by first | rfl | trivial⟩
            case measure => simp [intOf]; omega
          · have d2 : decide (16777216 < x) = false := decide_eq_false x2
            have NL2 := Lib.hid (NL.out false (by simp [x2]))
            go_wp2_with fail
            go_roundw
            case rel => exact ⟨k + 1, false, by omega, by go_num, rfl, NL2.out, N1.out, by first | rfl | trivial⟩
            case measure => simp [intOf]; omega
        · have NL2 := Lib.hid (NL.out true (by simp))
          go_wp2_with fail
          go_roundw
          case rel => exact ⟨k + 1, true, by omega, by go_num, rfl, NL2.out, N1.out, by first | rfl | trivial⟩
          case measure => simp [intOf]; omega
    · have hkn : k = n := by omega
      subst hkn
      cases L
      · have OKK : Hid (scOk k f) := Lib.hid ⟨h1, h16, fun j hj => ⟨H1.out j hj, by
          by_cases c : 16777216 < f j
          · exact absurd (HL.out.2 ⟨j, hj, c⟩) (by decide)
          · omega⟩⟩
        clear HL H1
        go_wp2_with fail
        have WBk := BKH.out
        obtain ⟨W2, hW2⟩ : ∃ W2, W1.alloc (.cells #[.slice none 0 0, .slice none 0 0] 48) = W2 := ⟨_, rfl⟩
        obtain ⟨G, hG⟩ : ∃ G, W1.heap.size = G := ⟨_, rfl⟩
        have GK : Blk W2 G 48 #[.slice none 0 0, .slice none 0 0] := by rw [← hW2, ← hG]; exact Blk.new _ _ _
        have bw2 : Below W1.heap.size W1 W2 := by rw [← hW2]; exact belowA (Below.refl _ _) _
        have hBG : B < G := by have := WBk.lt; omega
        have hsz2 : G + 1 ≤ W2.heap.size := by rw [← hW2, ← hG]; simp
        have I0 : Hid (N2 W2 G f 0 0 (.slice none 0 0) (.slice none 0 0)) := Lib.hid ⟨GK, ownsRow_nil' _ _ _ _, ownsRow_nil' _ _ _ _, Or.inl rfl⟩
        have BG : Hid (Below G W1 W2) := Lib.hid (by rw [← hG]; exact bw2)
        have HG := Lib.hid hG
        try rw [hW2]
        try rw [hG]
        clear hW2 hG GK bw2 hsz2 WBk
        go_loopw [7] (fun i w2 => ∃ (m : Nat) (s1 s2 : Value), m ≤ k ∧ i = .int .i64 m ∧ N2 w2 G f m m s1 s2 ∧ Below G W1 w2) (fun i _ => k - (intOf i).toNat)
        case atStart => exact ⟨0, _, _, by omega, rfl, I0.out, BG.out⟩
        case round =>
          obtain ⟨m, s1, s2, hm, rfl, n2, bg⟩ := hrel
          obtain ⟨a1, c1, e1⟩ := own_form n2.o1
          obtain ⟨a2, c2, e2⟩ := own_form n2.o2
          subst e1
          subst e2
          have NN := Lib.hid n2
          have BG1 := Lib.hid bg
          clear n2 bg I0 BG
          by_cases hlm : m < k
          · have zm : (m : Int) < k := by omega
            have hGw := NN.out.bk.lt
            have hGG : B < G := hBG
            obtain ⟨x, hx⟩ : ∃ x, f m = x := ⟨_, rfl⟩
            have NR1 := Lib.hid (rowN_succ f m)
            have NR2 := Lib.hid (rowN_succ (fun _ => 0) m)
            rw [hx] at NR1
            have xc : wr.cell? ⟨b, off + m, none⟩ = some (.int .i64 x) := by rw [← hx]; exact keepC (BG1.out.mono (by have := HG.out; omega)) (HC.out m hlm)
            clear hx
            go_upto_region 18 with (fail)
            go_cut [] from 45 to 53 (fun wx => ∃ v, N2 wx G f (m + 1) m v (.slice a2 m c2) ∧ Below G W1 wx)
            case first =>
              have g0 := NN.out.bk.cell 0
              have ga : Hid (N2 (wr.drew.alloc (.cells #[.int .i64 x] 2)) G f m m (.slice a1 m c1) (.slice a2 m c2)) := Lib.hid (NN.out.drew.alloc _)
              have g1 := ga.out.bk.cell 0
              have CN := Lib.hid (cell_one_new wr.drew (.int .i64 x) 2)
              go_region_law (
                (refine step_own_at rfl _ _ 22 rfl (G + 1) 2 i0 (.int .i64 0) 1 8 Try.underlying22 hi hz0 hz1 hz2 rfl (by decide) _ m _ rfl ga.out.o1 ⟨wr.heap.size, 0, none⟩ 1 1 [.int .i64 x] rfl rfl CN.out (fun x hx => by simp at hx; subst hx; rfl) (by unfold maxLen; omega) (by omega) ga.out.bk.lt ?_) ; (intro v1 w4 own1 hg1 hat1) ; (have ff := own_form own1) ; (obtain ⟨av, cv, rfl⟩ := ff) ; (rw [← NR1.out] at own1) ; (have bk4 := blk_grown ga.out.bk hg1 (own_ne ga.out.o1)) ; (have NX := Lib.hid (ga.out.fst own1 hg1 hat1)) ; (have BX := Lib.hid ((BG1.out.drew.alloc (Nat.le_of_lt NN.out.bk.lt) _).grown hg1 (Nat.le_of_lt ga.out.bk.lt) (fun j e => Nat.le_of_succ_le (own_base2 ga.out.o1 e)))) ; (have c4 := bk4.cell 0) ; (have f4 := bk4.frozen 0) ; (clear own1 hg1 hat1 bk4))
              all_goals (try go_wp2_with fail)
              all_goals go_meet
              all_goals (exact ⟨_, NX.out, BX.out.setCell (Nat.le_refl G) _⟩)
            case rest =>
              obtain ⟨v, n3, b3⟩ := hcut
              obtain ⟨a3, c3, e3⟩ := own_form n3.o1
              subst e3
              have N3 := Lib.hid n3
              have B3 := Lib.hid b3
              have g0 := n3.bk.cell 1
              clear NN BG1 xc NR1 n3 b3
              have ga : Hid (N2 (wc.alloc (.cells #[.int .i64 0] 2)) G f (m + 1) m (.slice a3 (m + 1) c3) (.slice a2 m c2)) := Lib.hid (N3.out.alloc _)
              have g1 := ga.out.bk.cell 1
              have CN := Lib.hid (cell_one_new wc (.int .i64 0) 2)
              go_wp2_with (first
                | (at_builtin; go_must (refine wpList_append_own_at _ rfl _ _ 22 rfl (G + 1) 2 i0 (.int .i64 0) 1 8 Try.underlying22 hi hz0 hz1 hz2 rfl (by decide) _ m _ rfl ga.out.o2 ⟨wc.heap.size, 0, none⟩ 1 1 [.int .i64 0] rfl rfl CN.out (fun x hx => by simp at hx; subst hx; rfl) (by unfold maxLen; omega) (by omega) ga.out.bk.lt ?_); intro v1 w4 own1 hg1 hnil1 hat1; have ff := own_form own1; obtain ⟨av, cv, rfl⟩ := ff; rw [← NR2.out] at own1; have bk4 := blk_grown ga.out.bk hg1 (own_ne ga.out.o2); have NX := Lib.hid (ga.out.snd own1 hg1 hat1); have BX := Lib.hid ((B3.out.alloc (Nat.le_of_lt N3.out.bk.lt) _).grown hg1 (Nat.le_of_lt ga.out.bk.lt) (fun j e => Nat.le_of_succ_le (own_base2 ga.out.o2 e))); have c4 := bk4.cell 1; have f4 := bk4.frozen 1; clear own1 hg1 hat1 bk4 hnil1))
              go_roundw
              case rel => exact ⟨m + 1, _, _, by omega, by go_num, NX.out, BX.out.setCell (Nat.le_refl G) _⟩
              case measure => simp [intOf]; omega
          · have hmk : m = k := by omega
            subst hmk
            have g0 := NN.out.bk.cell 0
            have g1 := NN.out.bk.cell 1
            have BB : Blk wr B 48 #[.slice none 0 0, .slice none 0 0] := BKH.out.below BG1.out (by have := HG.out; omega)
            have b0 := BB.cell 0
            have b1 := BB.cell 1
            have f0 := BB.frozen 0
            have f1 := BB.frozen 1
            have BBH := Lib.hid BB
            clear BB NIL
            go_wp2_with fail
            obtain ⟨g1, p1, e1, hg1, A1⟩ := own_arr (by omega) NN.out.o1
            obtain ⟨g2, p2, e2, hg2, A2⟩ := own_arr (by omega) NN.out.o2
            have B2 := (BBH.out.set_ 0 (.slice a1 m c1)).set_ 1 (.slice a2 m c2)
            have z0 := B2.cell 0
            have z1 := B2.cell 1
            have hBG1 : B ≠ g1 := by omega
            have hBG2 : B ≠ g2 := by omega
            have RK : Rk ((wr.setCell ⟨B, 0, none⟩ (.slice a1 m c1)).setCell ⟨B, 1, none⟩ (.slice a2 m c2)) g1 g2 m f (fun _ => 0) := by
              refine ⟨(A1.other (show B ≠ g1 from hBG1) _).other (show B ≠ g1 from hBG1) _, (A2.other (show B ≠ g2 from hBG2) _).other (show B ≠ g2 from hBG2) _, fun e => ?_⟩
              subst e
              have d := NN.out.dj
              rw [e1, e2] at d
              rcases d with d | d | d
              · cases d
              · cases d
              · exact d rfl
            have BX : Below w.heap.size w ((wr.setCell ⟨B, 0, none⟩ (.slice a1 m c1)).setCell ⟨B, 1, none⟩ (.slice a2 m c2)) := belowS (belowS (BW.out.trans (BG1.out.mono (by have := HG.out; have := HB.out; omega))) (p := ⟨B, 0, none⟩) HB.out _) (p := ⟨B, 1, none⟩) HB.out _
            refine bodyPost_ret (v := .tuple #[.agg #[.slice a1 m c1, .slice a2 m c2], .int .i64 0]) (by simp [results, Try.results21, go_sem, z0, z1]) rfl (Or.inr ⟨OKK.out, g1, p1, g2, p2, ?_, ?_, ?_, RK, BX⟩)
            · injection e1 with x1 _ x2; injection e2 with y1 _ y2; subst x1; subst x2; subst y1; subst y2; rfl
            · have := HG.out; have := HB.out; omega
            · have := HG.out; have := HB.out; omega
      · have R4 : Hid (newR k f 4) := Lib.hid (Or.inr (Or.inr (Or.inr (Or.inl ⟨h1, h16, H1.out, HL.out.1 (by first | trivial | rfl), rfl⟩))))
        obtain ⟨a0, a1, a2, a3, a4, a5, a6⟩ := NIL.out W1 BKH.out undef
        clear HL H1
        go_wp2_with fail
        exact bodyPost_ret (v := .tuple #[nilV, .int .i64 4]) (by simp [results, Try.results21, go_sem, a5, a6]) rfl (Or.inl ⟨4, by decide, R4.out, rfl, belowS (belowS BW.out (p := ⟨B, 0, none⟩) HB.out _) (p := ⟨B, 1, none⟩) HB.out _⟩)
end Go.Proofs.Ytfigepnpegnhkaa
