/- table: what it builds. -/
import Derived.Test.YtkeikkkcmackeaaTabB
import Derived.Deep.DeepCutAuto
import Derived.WalkKit
namespace Go.Proofs.Ytkeikkkcmackeaa
open Go.RowKit
set_option linter.unusedVariables false
set_option linter.unusedSimpArgs false
set_option maxRecDepth 100000

/-- Entries that came in. -/
def Ents (w : World) (v : Value) (es : List (Int × Int)) : Prop :=
  ∃ ao c, v = .slice ao es.length c ∧ (es = [] ∨ ∃ b off, ao = some ⟨b, off, none⟩ ∧ ∀ (i : Nat) e, es[i]? = some e → w.cell? ⟨b, off + i * 2, none⟩ = some (.int .u8 e.1) ∧ w.cell? ⟨b, off + i * 2 + 1, none⟩ = some (.int .u8 e.2))
theorem tinfoU8 : (Try.prog.info? 5).map (fun i => (i.zero, i.size, i.bytes)) = some (some (.int .u8 0), 1, 1) := by kernel_rfl
theorem tinfoSl : (Try.prog.info? 40).map (fun i => (i.zero, i.size, i.bytes)) = some (some (.slice none 0 0), 1, 24) := by kernel_rfl
theorem and127_i (m : Int) (h0 : 0 ≤ m) (h1 : m ≤ 255) : bits .and .i64 m 127 = m % 128 := by
  have h : ∀ n : Fin 256, bits .and .i64 (n.val : Int) 127 = (n.val : Int) % 128 := by decide +kernel
  have := h ⟨m.toNat, by omega⟩
  simp only [] at this
  rwa [Int.toNat_of_nonneg h0] at this
set_option maxHeartbeats 8000000 in
theorem table_any (lv0 : Value) (es : List (Int × Int)) (n : Nat) (w : World) (h : Ents w lv0 es) (hr : ∀ (i : Nat) e, es[i]? = some e → 0 ≤ e.1 ∧ e.1 ≤ 255 ∧ 0 ≤ e.2 ∧ e.2 ≤ 255) (hl : es.length ≤ 40) (n1 : 1 ≤ n) (n4 : n ≤ 4) :
    Calls Try.prog 16 #[lv0, .int .i64 n] w (fun e w' => ∃ bv lv lvs, e = .returned (.tuple #[bv, lv]) ∧ TI w w' bv lv (tabB n es ++ [0]) (tabL n es) lvs) := by
  obtain ⟨ao, cp, rfl, hE⟩ := h
  obtain ⟨i0, hi, hz0, hz1, hz2⟩ := info_parts tinfoU8
  obtain ⟨i1, hj, hy0, hy1, hy2⟩ := info_parts tinfoSl
  have HE := Lib.hid hE
  have HR := Lib.hid hr
  obtain ⟨m, hm⟩ : ∃ m, es.length = m := ⟨_, rfl⟩
  rw [hm] at hl ⊢
  have HM := Lib.hid hm
  clear hE hr hm
  go_enter Try.func16, Try.ntmps16
  go_wp2_with fail
  go_loopw [6, 7, 8] (fun bv lv i wr => ∃ k : Nat, k ≤ m ∧ i = .int .i64 k ∧ ∃ lvs, TI w wr bv lv (tabB n (es.take k)) (tabL n (es.take k)) lvs) (fun _ _ i _ => m - (intOf i).toNat)
  case atStart => exact ⟨0, by omega, rfl, [], TI.start w⟩
  case round =>
    obtain ⟨k, hk, rfl, lvs, ti⟩ := hrel
    have T := Lib.hid ti
    clear ti
    by_cases hlt : k < m
    · have hne : ¬ es = [] := by rintro rfl; have := HM.out; simp at this; omega
      obtain ⟨b, off, rfl, hc⟩ := HE.out.resolve_left hne
      have hx : es[k]? = some (es[k]'(by rw [HM.out]; exact hlt)) := by simp
      obtain ⟨p0, p1⟩ := hc k _ hx
      obtain ⟨c0, c1, v0, v1⟩ := HR.out k _ hx
      have tB := tabB_take n es k _ hx
      have tL := tabL_take n es k _ hx
      obtain ⟨⟨c, v⟩, hcv⟩ : ∃ e, (es[k]'(by rw [HM.out]; exact hlt)) = e := ⟨_, rfl⟩
      rw [hcv] at p0 p1 c0 c1 v0 v1 tB tL
      simp only at p0 p1 c0 c1 v0 v1
      have q0 := keepC T.out.bel p0
      have q1 := keepC T.out.bel p1
      have P0 := Lib.hid p0
      have P1 := Lib.hid p1
      have TB := Lib.hid tB
      have TL := Lib.hid tL
      have e127 := and127_i c c0 c1
      clear hc hx hcv p0 p1 tB tL hne
      by_cases hz : c % 128 = 0
      · have hB : entB n (c, v) = [] := by unfold entB; rw [if_pos hz]
        have hL : entL n (c, v) = [] := by unfold entL; rw [if_pos hz]
        have t : c = 0 ∨ (c == 0) = false := by
          by_cases h : c = 0
          · exact Or.inl h
          · right; simpa using h
        rw [hz] at e127
        have T2 : Hid (TI w wr u6 u7 (tabB n (es.take (k + 1))) (tabL n (es.take (k + 1))) lvs) := by
          show TI w wr u6 u7 _ _ lvs
          rw [TB.out, TL.out, hB, hL, List.append_nil, List.append_nil]; exact T.out
        clear hB hL hz T TB TL
        rcases t with rfl | t
        · go_wp2_with fail
          exact ⟨⟨k + 1, by omega, by go_num, lvs, T2.out⟩, by simp [intOf]; omega⟩
        · go_wp2_with fail
          exact ⟨⟨k + 1, by omega, by go_num, lvs, T2.out⟩, by simp [intOf]; omega⟩
      · obtain ⟨cnt, hcnt⟩ : ∃ cnt : Nat, c % 128 = cnt := ⟨(c % 128).toNat, by omega⟩
        have hB : entB n (c, v) = c :: (tblk c v n cnt).flatten := by unfold entB; rw [if_neg hz]; simp only [hcnt, Int.toNat_natCast]
        have hL : entL n (c, v) = tblk c v n cnt := by unfold entL; rw [if_neg hz]; simp only [hcnt, Int.toNat_natCast]
        have TB2 := Lib.hid (show tabB n (es.take (k + 1)) = tabB n (es.take k) ++ c :: (tblk c v n cnt).flatten by rw [TB.out, hB])
        have TL2 := Lib.hid (show tabL n (es.take (k + 1)) = tabL n (es.take k) ++ tblk c v n cnt by rw [TL.out, hL])
        rw [hcnt] at e127 hz
        have hc0 : (c == 0) = false := by simp; omega
        have hz' : ((cnt : Int) == 0) = false := by simpa using hz
        have cn1 : (cnt : Int) ≤ 127 := by omega
        have cn2 : cnt ≤ 127 := by omega
        have wc : IntKind.u8.wrap c = c := by rw [IntKind.wrap_u8]; omega
        obtain ⟨B, hBB⟩ : ∃ B, tabB n (es.take k) = B := ⟨_, rfl⟩
        obtain ⟨L, hLL⟩ : ∃ L, tabL n (es.take k) = L := ⟨_, rfl⟩
        rw [hBB] at T TB2
        rw [hLL] at T TL2
        have hBn : Hid (B.length ≤ 509 * 40) := by
          rw [← hBB]
          have h := tabB_len n n4 (es.take k)
          have h2 : (es.take k).length ≤ 40 := by rw [List.length_take]; omega
          exact Nat.le_trans h (Nat.mul_le_mul_left _ h2)
        have hLn : Hid (L.length ≤ 127 * 40) := by
          rw [← hLL]
          have h := tabL_len n (es.take k)
          have h2 : (es.take k).length ≤ 40 := by rw [List.length_take]; omega
          exact Nat.le_trans h (Nat.mul_le_mul_left _ h2)
        clear hB hL TB TL hcnt hBB hLL
        have bt := (T.out.below (belowA (Below.refl wr.heap.size wr) (.cells #[.int .u8 c] 5))).b
        unfold Row at bt
        have hle := hBn.out
        go_wp2_with (first
          | (at_builtin; refine wpList_append_own_at _ rfl _ _ 40 rfl w.heap.size 5 i0 (.int .u8 0) 1 1 Try.underlying40 hi hz0 hz1 hz2 rfl (by decide) _ _ _ rfl bt ⟨wr.heap.size, 0, none⟩ 1 1 [.int .u8 c] rfl rfl (cell_one_new _ _ _) (fun x hx => by simp at hx; subst hx; rfl) (by unfold maxLen; omega) (by omega) (by have := T.out.bel.size; simp; omega) ?_; intro v1 w1 own1 hg1 hnil1 hat1))
        have t1 := (T.out.below (belowA (Below.refl wr.heap.size wr) (.cells #[.int .u8 c] 5))).byte (x := c) own1 hg1 hat1
        have T1 := Lib.hid t1
        clear bt own1 hg1 hnil1 hat1 t1 T q0 q1
        go_loopw [6, 7, 11] (fun bv lv i wr => ∃ q : Nat, q ≤ cnt ∧ i = .int .i64 q ∧ ∃ lvs, TI w wr bv lv (B ++ c :: (tblk c v n q).flatten) (L ++ tblk c v n q) lvs) (fun _ _ i _ => cnt - (intOf i).toNat)
        case atStart => exact ⟨0, by omega, rfl, lvs, by have := T1.out; simpa [tblk] using this⟩
        case round =>
          obtain ⟨q, hq, rfl, lvs2, ti⟩ := hrel
          have T := Lib.hid ti
          clear ti T1
          by_cases hql : q < cnt
          · have wr1 := keepC T.out.bel P1.out
            go_upto_region 14 with (fail)
            obtain ⟨D, hD⟩ : ∃ D : Bool, D = decide (q = 0 ∨ 128 < c) := ⟨_, rfl⟩
            have HD := Lib.hid hD
            go_cut [50] from 45 to 50 (fun s wx => s = .bool D ∧ wr = wx)
            case first =>
              by_cases hq0 : q = 0
              · subst hq0
                have hd : D = true := by rw [hD]; simp
                clear hD HD
                go_wp2_with fail
                go_meet
                exact ⟨by rw [hd], rfl⟩
              · have t0 : ((q : Int) == 0) = false := by simp; omega
                by_cases hc1 : 128 < c
                · have hd : D = true := by rw [hD]; simp [hc1]
                  clear hD HD
                  go_wp2_with fail
                  go_meet
                  exact ⟨by rw [hd], rfl⟩
                · have hd : D = false := by rw [hD]; simp [hc1, hq0]
                  clear hD HD
                  go_wp2_with fail
                  go_meet
                  exact ⟨by rw [hd], rfl⟩
            case rest =>
              obtain ⟨rfl, rfl⟩ := hcut
              clear hD
              obtain ⟨tl, htl⟩ : ∃ tl, tline c v n q = tl := ⟨_, rfl⟩
              have HTL := Lib.hid htl
              have HFS := Lib.hid (show (tblk c v n (q + 1)).flatten = (tblk c v n q).flatten ++ tl by rw [tblk_succ, List.flatten_append, htl]; simp)
              have HLS := Lib.hid (show tblk c v n (q + 1) = tblk c v n q ++ [tl] by rw [tblk_succ, htl])
              have hfl := flat_len c v n q
              have hfl2 : q * n ≤ 127 * 4 := Nat.mul_le_mul (by omega) n4
              have htn : tl.length ≤ n := by rw [← htl]; exact tline_len c v n q
              have htb : (tblk c v n q).length = q := by unfold tblk; simp
              obtain ⟨F, hF⟩ : ∃ F, (tblk c v n q).flatten = F := ⟨_, rfl⟩
              obtain ⟨G, hG⟩ : ∃ G, tblk c v n q = G := ⟨_, rfl⟩
              rw [hF] at T HFS hfl
              rw [hG] at T HLS htb
              clear hF hG htl
              go_upto_if 50 with (fail)
              go_cut [6, 12, 13, 14] from 51 to 75 (fun s6 s12 _ _ wx => TC w wx s6 u7 (B ++ c :: F ++ tl) (L ++ G) lvs2 s12 tl)
              case first =>
                cases D
                · have htl0 : tl = [] := by
                    rw [← HTL.out]
                    unfold tline
                    have := HD.out
                    rw [if_neg (by simpa using this)]
                  have TT : Hid (TC w wr u6 u7 (B ++ c :: F ++ tl) (L ++ G) lvs2 (.slice none 0 0) tl) := by
                    show TC w wr u6 u7 (B ++ c :: F ++ tl) (L ++ G) lvs2 (.slice none 0 0) tl
                    rw [htl0, List.append_nil]; exact T.out.line
                  go_wp2_with fail
                  go_meet
                  exact TT.out
                · have htl1 : tl = (List.range n).map (fun j : Nat => (v + ((q : Int) * n + (j : Int))) % 256) := by
                    rw [← HTL.out]
                    unfold tline
                    have := HD.out
                    rw [if_pos (by simpa using this)]
                  obtain ⟨qn, hqn⟩ : ∃ qn : Int, (q : Int) * n = qn := ⟨_, rfl⟩
                  have qn0 : 0 ≤ qn := by rw [← hqn]; exact Int.mul_nonneg (by omega) (by omega)
                  have qn1 : qn ≤ 508 := by rw [← hqn, ← Int.natCast_mul]; omega
                  rw [hqn] at htl1
                  have hat : ∀ p, p < n → tl[p]? = some ((v + (qn + (p : Int))) % 256) := by
                    intro p hp
                    rw [htl1]; simp [hp]
                  have HTA := Lib.hid hat
                  have htl2 : tl.length = n := by rw [htl1]; simp
                  have HTN := Lib.hid htl2
                  have TL0 : Hid (TC w wr u6 u7 (B ++ c :: F ++ tl.take 0) (L ++ G) lvs2 (.slice none 0 0) (tl.take 0)) := by
                    show TC w wr u6 u7 (B ++ c :: F ++ tl.take 0) (L ++ G) lvs2 (.slice none 0 0) (tl.take 0)
                    rw [List.take_zero, List.append_nil]; exact T.out.line
                  clear htl1 hat htl2 T HTL HD
                  go_wp2_with fail
                  go_loopw [6, 12, 13] (fun bv cv j wr => ∃ p : Nat, p ≤ n ∧ j = .int .i64 p ∧ TC w wr bv u7 (B ++ c :: F ++ tl.take p) (L ++ G) lvs2 cv (tl.take p)) (fun _ _ j _ => n - (intOf j).toNat)
                  case atStart => exact ⟨0, by omega, rfl, TL0.out⟩
                  case round =>
                    obtain ⟨p, hp, rfl, tc⟩ := hrel
                    have TC1 := Lib.hid tc
                    clear tc TL0
                    by_cases hpl : p < n
                    · have pv := keepC TC1.out.t.bel P1.out
                      have nn4 : (n : Int) ≤ 4 := by omega
                      have pp4 : (p : Int) < 4 := by omega
                      clear wr1
                      have b1 := (TC1.out.below (belowA (Below.refl wr.heap.size wr) (.cells #[.int .u8 ((v + (qn + (p : Int))) % 256)] 5))).t.b
                      unfold Row at b1
                      have lb : (B ++ c :: F ++ tl.take p).length ≤ 509 * 40 + 600 := by
                        have h1 := hBn.out
                        simp only [List.length_append, List.length_cons, List.length_take]; omega
                      have lc : (tl.take p).length ≤ 4 := by simp only [List.length_take]; omega
                      go_wp2_with (first
                        | (at_builtin; refine wpList_append_own_at _ rfl _ _ 40 rfl w.heap.size 5 i0 (.int .u8 0) 1 1 Try.underlying40 hi hz0 hz1 hz2 rfl (by decide) _ _ _ rfl b1 ⟨wr.heap.size, 0, none⟩ 1 1 [.int .u8 ((v + (qn + (p : Int))) % 256)] rfl rfl (cell_one_new _ _ _) (fun x hx => by simp at hx; subst hx; rfl) (by unfold maxLen; omega) (by omega) (by have := TC1.out.t.bel.size; simp; omega) ?_; intro v1 w1 own1 hg1 hnil1 hat1; have tc2 := (TC1.out.below (belowA (Below.refl wr.heap.size wr) (.cells #[.int .u8 ((v + (qn + (p : Int))) % 256)] 5))).byte (x := ((v + (qn + (p : Int))) % 256)) own1 hg1 hat1; have c1 := (tc2.below (belowA (Below.refl w1.heap.size w1) (.cells #[.int .u8 ((v + (qn + (p : Int))) % 256)] 5))).c; unfold Row at c1; have TC2 := Lib.hid tc2; have szz := tc2.t.bel.size; clear tc2 own1 hg1 hnil1 hat1)
                        | (at_builtin; refine wpList_append_own_at _ rfl _ _ 40 rfl w.heap.size 5 i0 (.int .u8 0) 1 1 Try.underlying40 hi hz0 hz1 hz2 rfl (by decide) _ _ _ rfl c1 ⟨w1.heap.size, 0, none⟩ 1 1 [.int .u8 ((v + (qn + (p : Int))) % 256)] rfl rfl (cell_one_new _ _ _) (fun x hx => by simp at hx; subst hx; rfl) (by unfold maxLen; omega) (by omega) (by simp; omega) ?_; intro v2 w2 own2 hg2 hnil2 hat2))
                      have tc3 := (TC2.out.below (belowA (Below.refl w1.heap.size w1) (.cells #[.int .u8 ((v + (qn + (p : Int))) % 256)] 5))).more (x := ((v + (qn + (p : Int))) % 256)) own2 hg2 hat2
                      have htk : tl.take (p + 1) = tl.take p ++ [((v + (qn + (p : Int))) % 256)] := by
                        have h := HTA.out p hpl
                        obtain ⟨hp', he⟩ := List.getElem?_eq_some_iff.mp h
                        rw [List.take_succ_eq_append_getElem hp', he]
                      have TC3 := Lib.hid (show TC w w2 v1 u7 (B ++ c :: F ++ tl.take (p + 1)) (L ++ G) lvs2 v2 (tl.take (p + 1)) by rw [htk, ← List.append_assoc (B ++ c :: F)]; exact tc3)
                      clear tc3 own2 hg2 hnil2 hat2 c1 b1
                      go_roundw
                      case rel => exact ⟨p + 1, by omega, by go_num, TC3.out⟩
                      case measure => simp [intOf]; omega
                    · have hpn : p = n := by omega
                      subst hpn
                      have TZ : Hid (TC w wr u6 u7 (B ++ c :: F ++ tl) (L ++ G) lvs2 u12 tl) := by
                        have h := TC1.out
                        rw [List.take_of_length_le (by rw [HTN.out]; exact Nat.le_refl _)] at h
                        exact h
                      clear TC1
                      go_wp2_with fail
                      go_meet
                      exact TZ.out
              case rest =>
                obtain ⟨sao, scp, rfl⟩ := row_slice hcut.c
                have TC9 := Lib.hid hcut
                have l1 := (hcut.below (belowA (Below.refl wc.heap.size wc) (.cells #[(.slice sao tl.length scp)] 40))).t.l
                unfold Rows2 at l1
                have one := row_one hcut.c
                have ll : lvs2.length ≤ 127 * 40 + 127 := by
                  rw [hcut.t.len, List.length_append, htb]
                  have := hLn.out
                  omega
                have szz := hcut.t.bel.size
                clear hcut T wr1
                go_wp2_with (first
                  | (at_builtin; refine wpList_append_own_at _ rfl _ _ 41 rfl w.heap.size 40 i1 (.slice none 0 0) 1 24 Try.underlying41 hj hy0 hy1 hy2 rfl (by decide) _ _ _ rfl l1 ⟨wc.heap.size, 0, none⟩ 1 1 [(.slice sao tl.length scp)] rfl rfl (cell_one_new _ _ _) (fun x hx => by simp at hx; subst hx; exact one) (by unfold maxLen; omega) (by omega) (by simp; omega) ?_; intro v1 w1 own1 hg1 hnil1 hat1))
                have ti := (TC9.out.below (belowA (Below.refl wc.heap.size wc) (.cells #[(.slice sao tl.length scp)] 40))).lay own1 hg1
                have TT : Hid (TI w w1 u6 v1 (B ++ c :: (tblk c v n (q + 1)).flatten) (L ++ tblk c v n (q + 1)) (lvs2 ++ [(.slice sao tl.length scp)])) := by
                  show TI w w1 u6 v1 (B ++ c :: (tblk c v n (q + 1)).flatten) (L ++ tblk c v n (q + 1)) (lvs2 ++ [(.slice sao tl.length scp)])
                  rw [HFS.out, HLS.out]
                  have e1 : B ++ c :: (F ++ tl) = B ++ c :: F ++ tl := by simp
                  have e2 : L ++ (G ++ [tl]) = L ++ G ++ [tl] := by simp
                  rw [e1, e2]
                  exact ti
                clear ti own1 hg1 hnil1 hat1 l1
                go_roundw
                case rel => exact ⟨q + 1, by omega, by go_num, _, TT.out⟩
                case measure => simp [intOf]; omega
          · have hqn : q = cnt := by omega
            subst hqn
            have TT : Hid (TI w wr u6 u7 (tabB n (es.take (k + 1))) (tabL n (es.take (k + 1))) lvs2) := by
              show TI w wr u6 u7 _ _ lvs2
              rw [TB2.out, TL2.out]; exact T.out
            clear T
            go_wp2_with fail
            exact ⟨⟨k + 1, by omega, by go_num, lvs2, TT.out⟩, by simp [intOf]; omega⟩
    · have hkm : k = m := by omega
      subst hkm
      have hBn : (tabB n es).length ≤ 509 * 40 := by
        have h := tabB_len n n4 es
        rw [HM.out] at h
        exact Nat.le_trans h (Nat.mul_le_mul_left _ hl)
      have T2 : Hid (TI w wr u6 u7 (tabB n es) (tabL n es) lvs) := by
        have h := T.out
        rw [List.take_of_length_le (by rw [HM.out]; exact Nat.le_refl _)] at h
        exact h
      have b1 := (T2.out.below (belowA (Below.refl wr.heap.size wr) (.cells #[.int .u8 0] 5))).b
      unfold Row at b1
      have szz := T2.out.bel.size
      clear T
      go_wp2_with (first
        | (at_builtin; refine wpList_append_own_at _ rfl _ _ 40 rfl w.heap.size 5 i0 (.int .u8 0) 1 1 Try.underlying40 hi hz0 hz1 hz2 rfl (by decide) _ _ _ rfl b1 ⟨wr.heap.size, 0, none⟩ 1 1 [.int .u8 0] rfl rfl (cell_one_new _ _ _) (fun x hx => by simp at hx; subst hx; rfl) (by unfold maxLen; omega) (by omega) (by simp; omega) ?_; intro v1 w1 own1 hg1 hnil1 hat1))
      have t1 := (T2.out.below (belowA (Below.refl wr.heap.size wr) (.cells #[.int .u8 0] 5))).byte (x := 0) own1 hg1 hat1
      go_ret2
      exact ⟨v1, u7, lvs, rfl, t1⟩
end Go.Proofs.Ytkeikkkcmackeaa
