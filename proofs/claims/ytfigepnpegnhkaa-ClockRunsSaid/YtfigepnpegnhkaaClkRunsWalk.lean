/- The walk of ClockRuns. -/
import Derived.Test.YtfigepnpegnhkaaClkW
import Derived.Test.YtfigepnpegnhkaaOpenOps
import Derived.Deep.CutRange
import Derived.Deep.RegionHeld3
namespace Go.Proofs.Ytfigepnpegnhkaa
open Go.RowKit
set_option linter.unusedVariables false
set_option linter.unusedSimpArgs false
set_option maxRecDepth 100000
set_option maxHeartbeats 8000000 in
theorem clockRuns_law (v0 v1 : Value) (n m : Nat) (f wh ix nn : Nat → Int) (lv : Nat → Value) (W : World) (S0 : Sees W .i64 v0 n f) (S1 : SeesOps W .i64 .i64 .i64 v1 m wh ix nn lv) (hn44 : n ≤ 17592186044416) (hm : m ≤ 9223372036854775807)
    (hl : ∀ j, j < m → ∃ q h, Sees W .i64 (lv j) q h ∧ q ≤ 17592186044416) :
    Calls Try.prog 7 #[v0, v1] W (Says W (.bool true)) := by
  have SS0 := Lib.hid S0
  have SS1 := Lib.hid S1
  have HL := Lib.hid hl
  have S00 := S0
  obtain ⟨ao0, c0, rfl, hs0⟩ := S0
  obtain ⟨ao1, c1, rfl, hs1⟩ := S1
  have RN := Lib.hid (rnew_any _ n f W S00 hn44)
  have HS1 := Lib.hid hs1
  clear hs0 hs1 hl S00
  go_enter Try.func7, Try.ntmps7
  try simp only [List.append_eq, List.cons_append, List.nil_append]
  go_wp2_with fail
  refine RN.out.mono ?_
  rintro e w1 (⟨c, hc, hcr, rfl, b1⟩ | ⟨ok, bs, cs, bt, ct, rfl, hbs, hbt, rk, b1⟩)
  · have HC := Lib.hid hc
    have HCR := Lib.hid hcr
    have B1 := Lib.hid b1
    clear hc hcr b1 RN
    go_upto_region 2 with (fail)
    obtain ⟨D, hD⟩ : ∃ D, w1.heap.size = D := ⟨_, rfl⟩
    obtain ⟨w2, hw2⟩ : ∃ w2, w1.alloc (.cells #[.slice none 0 0, .slice none 0 0] 48) = w2 := ⟨_, rfl⟩
    have B2 : Hid (Below W.heap.size W w2) := Lib.hid (by rw [← hw2]; exact B1.out.trans ((belowA (Below.refl _ _) _).mono B1.out.size))
    have CP := Lib.hid (copyLongs_any _ n f w2 (SS0.out.kept B2.out) hn44)
    rw [hw2, hD]
    clear hw2 hD B1
    go_wp2_with fail
    refine CP.out.mono ?_
    rintro e w3 ⟨gi, rfl, hgi, ai, b3⟩
    have B3 := Lib.hid (B2.out.trans (b3.mono B2.out.size))
    have NE := Lib.hid (newc_any (.slice (some ⟨gi, 0, none⟩) n n) n f w3 ai.sees)
    have AI := Lib.hid ai
    have HGI := Lib.hid (Nat.le_trans B2.out.size hgi)
    clear ai b3 CP B2 hgi
    go_wp2_with fail
    refine NE.out.mono ?_
    rintro e w4 (⟨c', hc', hcr', rfl, b4⟩ | ⟨ok', g, b, cap, rfl, hg, hb, ck, b4⟩)
    · have ecc := newR_uniq hcr' HCR.out
      subst ecc
      have B4 := Lib.hid (B3.out.trans (b4.mono B3.out.size))
      have SP := Lib.hid (spoil_any w4 gi n n _ f (AI.out.kept b4) hn44)
      have zc : (c' == 0) = false := by rw [beq_eq_false_iff_ne]; exact hc'
      have zc2 : (c' != 0) = true := by simp [hc']
      clear b4 hc' hcr' NE AI B3
      go_wp2_with fail
      refine SP.out.mono ?_
      rintro e w5 ⟨rfl, u5⟩
      have B5 := Lib.hid (u5.out B4.out HGI.out)
      clear u5 SP B4
      go_wp2_with fail
      go_ret
      exact ⟨rfl, B5.out⟩
    · exact absurd (newR_uniq (Or.inr (Or.inr (Or.inr (Or.inr ⟨ok', rfl⟩)))) HCR.out).symm HC.out
  · have B1 := Lib.hid b1
    have R1 := Lib.hid rk
    have OK := Lib.hid ok
    have h1 : 1 ≤ n := ok.1
    have h16 : n ≤ 16 := ok.2.1
    have HBT := Lib.hid hbt
    clear b1 rk ok RN hbs hbt
    go_upto_region 2 with (fail)
    obtain ⟨D, hD⟩ : ∃ D, w1.heap.size = D := ⟨_, rfl⟩
    obtain ⟨w2, hw2⟩ : ∃ w2, w1.alloc (.cells #[.slice (some ⟨bs, 0, none⟩) n cs, .slice (some ⟨bt, 0, none⟩) n ct] 48) = w2 := ⟨_, rfl⟩
    have bw2 : Below w1.heap.size w1 w2 := by rw [← hw2]; exact belowA (Below.refl _ _) _
    have bk2 : Blk w2 D 48 #[.slice (some ⟨bs, 0, none⟩) n cs, .slice (some ⟨bt, 0, none⟩) n ct] := by rw [← hw2, ← hD]; exact Blk.new _ _ _
    have B2 : Hid (Below W.heap.size W w2) := Lib.hid (B1.out.trans (bw2.mono B1.out.size))
    have R2 := Lib.hid (R1.out.kept bw2)
    have BK2 := Lib.hid bk2
    have CP := Lib.hid (copyLongs_any _ n f w2 (SS0.out.kept B2.out) hn44)
    have HBD : Hid (bt ≠ D) := Lib.hid (by have := R1.out.tm.lt; omega)
    rw [hw2, hD]
    clear hw2 hD B1 bw2 bk2 R1
    go_wp2_with fail
    refine CP.out.mono ?_
    rintro e w3 ⟨gi, rfl, hgi, ai, b3⟩
    have B3 := Lib.hid (B2.out.trans (b3.mono B2.out.size))
    have NE := Lib.hid (newc_any (.slice (some ⟨gi, 0, none⟩) n n) n f w3 ai.sees)
    have AI := Lib.hid ai
    have HGI := Lib.hid hgi
    have BK3 := Lib.hid (BK2.out.kept b3)
    have R3 := Lib.hid (R2.out.kept b3)
    have SZ3 : Hid (w2.heap.size ≤ w3.heap.size) := Lib.hid b3.size
    clear ai b3 CP hgi
    go_wp2_with fail
    refine NE.out.mono ?_
    rintro e w4 (⟨c', hc', hcr', rfl, b4⟩ | ⟨ok', g, b, cap, rfl, hg, hb, ck, b4⟩)
    · exact absurd (newR_uniq hcr' (Or.inr (Or.inr (Or.inr (Or.inr ⟨OK.out, rfl⟩))))) hc'
    have AP : Hid (Apart W.heap.size g b bs bt D) := Lib.hid (by
      have q1 := R2.out.sc.lt
      have q2 := R2.out.tm.lt
      have q3 := BK2.out.lt
      have q4 := SZ3.out
      have q5 := B2.out.size
      have q6 := HBT.out
      have q7 := HBD.out
      exact ⟨by omega, by omega, by omega, by omega, by omega, by omega, by omega⟩)
    have L4 : Hid (Lq W D g b cap n bs cs bt ct f (fun _ => 0) (fun _ => 0) w4) := Lib.hid ⟨ck, R3.out.kept b4, keepC b4 (BK3.out.cell 0), keepC b4 (BK3.out.cell 1), B3.out.trans (b4.mono B3.out.size)⟩
    have SP := Lib.hid (spoil_any w4 gi n n _ f (AI.out.kept b4) hn44)
    have NEG : Hid (W.heap.size ≤ gi ∧ b ≠ gi ∧ g ≠ gi ∧ bs ≠ gi ∧ bt ≠ gi ∧ D ≠ gi) := Lib.hid (by
      have q1 := R2.out.sc.lt
      have q2 := R2.out.tm.lt
      have q3 := BK2.out.lt
      have q4 := SZ3.out
      have q5 := B2.out.size
      have q6 := AI.out.lt
      have q7 := HGI.out
      refine ⟨by omega, by omega, by omega, by omega, by omega, by omega⟩)
    clear b4 ck hg hb ok' NE AI HGI BK3 R3 SZ3 B3 R2 BK2 B2 HBT
    go_wp2_with fail
    refine SP.out.mono ?_
    rintro e w5 ⟨rfl, u5⟩
    have L5 := Lib.hid (L4.out.else_ u5 NEG.out.1 NEG.out.2.1 NEG.out.2.2.1 NEG.out.2.2.2.1 NEG.out.2.2.2.2.1 NEG.out.2.2.2.2.2)
    clear u5 L4 SP NEG
    go_wp2_with fail
    go_loopw [10, 11, 12, 13, 14] (fun i _ _ _ _ wr => ∃ (k : Nat) (T : Nat → Int), k ≤ m ∧ i = .int .i64 k ∧ Tok n T ∧ Lq W D g b cap n bs cs bt ct f T T wr) (fun i _ _ _ _ _ => m - (intOf i).toNat)
    case atStart => exact ⟨0, fun _ => 0, by omega, rfl, fun j _ => by simp, L5.out⟩
    case round =>
      obtain ⟨k, T, hk, rfl, tok, lq⟩ := hrel
      have TK := Lib.hid tok
      have LQ := Lib.hid lq
      clear tok L5
      by_cases hlt : k < m
      · have zk : (k : Int) < m := by omega
        obtain ⟨b1, of1, rfl, hcells⟩ := HS1.out.resolve_left (by omega)
        obtain ⟨h0, h1', h2, h3⟩ := hcells k hlt
        have y0 := keepC lq.bel h0
        have y1 := keepC lq.bel h1'
        have y2 := keepC lq.bel h2
        have y3 := keepC lq.bel h3
        obtain ⟨q, lf, sl, hq⟩ := HL.out k hlt
        obtain ⟨lao, lc, elv, hls⟩ := sl
        rw [elv] at y3
        obtain ⟨x0, hx0⟩ : ∃ x, wh k = x := ⟨_, rfl⟩
        obtain ⟨x1, hx1⟩ : ∃ x, ix k = x := ⟨_, rfl⟩
        obtain ⟨x2, hx2⟩ : ∃ x, nn k = x := ⟨_, rfl⟩
        rw [hx0] at y0
        rw [hx1] at y1
        rw [hx2] at y2
        have SL : Hid (Sees W .i64 (.slice lao q lc) q lf) := Lib.hid ⟨lao, lc, rfl, hls⟩
        clear hx0 hx1 hx2 elv hls h0 h1' h2 h3 hcells lq
        go_upto_region 13 with (fail)
        obtain ⟨w6, hw6⟩ : ∃ w6, w6 = wr.alloc (.cells #[.int .i64 x0, .int .i64 x1, .int .i64 x2, .slice lao q lc] 53) := ⟨_, rfl⟩
        obtain ⟨O, hO⟩ : ∃ O, O = wr.heap.size := ⟨_, rfl⟩
        have L6 : Hid (Lo False W D g b cap n bs cs bt ct O #[.int .i64 x0, .int .i64 x1, .int .i64 x2, .slice lao q lc] 0 0 (fun _ => 0) f T T w6) := Lib.hid (by rw [hw6, hO]; exact ⟨LQ.out.kept (belowA (Below.refl _ _) _), Blk.new _ _ _, fun h => h.elim⟩)
        have NO : Hid (O ≠ b ∧ O ≠ bt) := Lib.hid (by have := LQ.out.ck.arr.lt; have := LQ.out.rk.tm.lt; omega)
        rw [← hw6, ← hO]
        clear hw6 hO LQ y0 y1 y2 y3
        have e0 := L6.out.o.cell 0
        go_upto_if 53 with fail
        go_cut [53] from 12 to 14 (fun v53 wx => ∃ T', Tok n T' ∧ Lo False W D g b cap n bs cs bt ct O #[.int .i64 x0, .int .i64 x1, .int .i64 x2, .slice lao q lc] 0 0 (fun _ => 0) f T' T' wx)
        case first =>
          by_cases q0 : x0 = 0
          · have d0 : (x0 == 0) = true := by rw [beq_iff_eq]; exact q0
            have TN := Lib.hid (addT_ok OK.out.2.2 TK.out x1 x2)
            have CA : Hid (∀ (T2 : Nat → Int) (w' : World), Lo False W D g b cap n bs cs bt ct O #[.int .i64 x0, .int .i64 x1, .int .i64 x2, .slice lao q lc] 0 0 (fun _ => 0) f T T2 w' → Calls Try.prog 14 #[.pointer (some ⟨g, 0, none⟩), .int .i64 x1, .int .i64 x2] w' (fun e w'' => e = .returned (.int .i64 (addV n f T x1 x2)) ∧ Lo False W D g b cap n bs cs bt ct O #[.int .i64 x0, .int .i64 x1, .int .i64 x2, .slice lao q lc] 0 0 (fun _ => 0) f (addT n f T x1 x2) T2 w'')) := Lib.hid (fun T2 w' h =>
              (cadd_fn h.lq.ck h16 x1 x2 OK.out.2.2 TK.out).mono (fun e w'' ⟨h1, h2, h3⟩ => ⟨h1, h.prog AP.out NO.out.1 (fun p => p.elim) h2 h3⟩))
            have DA : Hid (∀ (T1 : Nat → Int) (w' : World), Lo False W D g b cap n bs cs bt ct O #[.int .i64 x0, .int .i64 x1, .int .i64 x2, .slice lao q lc] 0 0 (fun _ => 0) f T1 T w' → Calls Try.prog 23 #[rkV bs cs bt ct n, .int .i64 x1, .int .i64 x2] w' (fun e w'' => e = .returned (.int .i64 (addV n f T x1 x2)) ∧ Lo False W D g b cap n bs cs bt ct O #[.int .i64 x0, .int .i64 x1, .int .i64 x2, .slice lao q lc] 0 0 (fun _ => 0) f T1 (addT n f T x1 x2) w'')) := Lib.hid (fun T1 w' h =>
              (dadd_fn h.lq.rk h16 x1 x2 OK.out.2.2 TK.out).mono (fun e w'' ⟨h1, h2, h3⟩ => ⟨h1, h.doc AP.out NO.out.2 (fun p => p.elim) h2 h3⟩))
            obtain ⟨av, hav⟩ : ∃ v, addV n f T x1 x2 = v := ⟨_, rfl⟩
            obtain ⟨aT, haT⟩ : ∃ v, addT n f T x1 x2 = v := ⟨_, rfl⟩
            rw [hav, haT] at CA DA
            rw [haT] at TN
            clear hav haT
            have LQ0 : Hid (Lo False W D g b cap n bs cs bt ct O #[.int .i64 x0, .int .i64 x1, .int .i64 x2, .slice lao q lc] 0 0 (fun _ => 0) f T T w6.drew) := Lib.hid L6.out.drew
            clear q0
            go_upto_region 14 with (fail)
            go_region_held3 (fun w' => w'.cell? ⟨D, 0, none⟩ = some (.slice (some ⟨bs, 0, none⟩) n cs) ∧ w'.cell? ⟨D, 1, none⟩ = some (.slice (some ⟨bt, 0, none⟩) n ct) ∧ w'.cell? ⟨O, 0, none⟩ = some (.int .i64 x0) ∧ w'.cell? ⟨O, 1, none⟩ = some (.int .i64 x1) ∧ w'.cell? ⟨O, 2, none⟩ = some (.int .i64 x2) ∧ w'.cell? ⟨O, 3, none⟩ = some (.slice lao q lc))
              (first
                | exact LQ0.out.cells
                | exact LQe.out.cells
                | exact LQc.out.cells
                | exact LQr.out.cells)
              (first
                | (go_at_call 14; refine (CA.out _ _ LQr.out).mono ?_; rintro e w' ⟨rfl, hz⟩; have LQe := Lib.hid hz; clear hz)
                | (go_at_call 14; refine (CA.out _ _ LQ0.out).mono ?_; rintro e w' ⟨rfl, hz⟩; have LQc := Lib.hid hz; clear hz)
                | (go_at_call 23; refine (DA.out _ _ LQc.out).mono ?_; rintro e w' ⟨rfl, hz⟩; have LQe := Lib.hid hz; clear hz)
                | (go_at_call 23; refine (DA.out _ _ LQ0.out).mono ?_; rintro e w' ⟨rfl, hz⟩; have LQr := Lib.hid hz; clear hz))
            all_goals
              go_split_ands
              go_wp2_with fail
              go_meet
              exact ⟨_, TN.out, LQe.out⟩
          · have d0 : (x0 == 0) = false := by rw [beq_eq_false_iff_ne]; exact q0
            by_cases q1 : x0 = 1
            · have d1 : (x0 == 1) = true := by rw [beq_iff_eq]; exact q1
              have e3 := L6.out.o.cell 3
              have CP := Lib.hid (copyLongs_any _ q lf w6 (SL.out.kept L6.out.lq.bel) hq)
              clear q0 q1
              go_wp2_with fail
              refine CP.out.mono ?_
              rintro e w7 ⟨gl, rfl, hgl, al, b7⟩
              have NL : Hid (gl ≠ b ∧ gl ≠ bt ∧ W.heap.size ≤ gl ∧ g ≠ gl ∧ bs ≠ gl ∧ D ≠ gl ∧ O ≠ gl) := Lib.hid (by
                have z1 := L6.out.lq.ck.arr.lt
                have z2 := L6.out.lq.rk.tm.lt
                have z3 := L6.out.lq.rk.sc.lt
                have z4 : g < w6.heap.size := World.block_lt_of_cell? _ _ L6.out.lq.ck.hd
                have z5 : D < w6.heap.size := World.block_lt_of_cell? _ _ L6.out.lq.d0
                have z6 := L6.out.o.lt
                have z7 := L6.out.lq.bel.size
                omega)
              have L7 : Hid (Lo True W D g b cap n bs cs bt ct O #[.int .i64 x0, .int .i64 x1, .int .i64 x2, .slice lao q lc] gl q lf f T T w7) := Lib.hid ⟨L6.out.lq.kept b7, L6.out.o.kept b7, fun _ => al⟩
              have e0 := L7.out.o.cell 0
              clear e3 CP al b7 L6 hgl
              have TN := Lib.hid (setT_ok (m := q) (f := lf) TK.out)
              have CA : Hid (∀ (T2 : Nat → Int) (w' : World), Lo True W D g b cap n bs cs bt ct O #[.int .i64 x0, .int .i64 x1, .int .i64 x2, .slice lao q lc] gl q lf f T T2 w' → Calls Try.prog 11 #[.pointer (some ⟨g, 0, none⟩), .slice (some ⟨gl, 0, none⟩) q q] w' (fun e w'' => e = .returned (.int .i64 (setV n q lf)) ∧ Lo True W D g b cap n bs cs bt ct O #[.int .i64 x0, .int .i64 x1, .int .i64 x2, .slice lao q lc] gl q lf f (setT n q lf T) T2 w'')) := Lib.hid (fun T2 w' h =>
                (cset_fn h.lq.ck h1 h16 (.slice (some ⟨gl, 0, none⟩) q q) q lf (h.l trivial).sees hq (fun ao c e => by
                  injection e with e2
                  injection e2 with e3
                  rw [← e3]; exact NL.out.1)).mono (fun e w'' ⟨h1, h2, h3⟩ => ⟨h1, h.prog AP.out NO.out.1 (fun p => NL.out.1) h2 h3⟩))
              have DA : Hid (∀ (T1 : Nat → Int) (w' : World), Lo True W D g b cap n bs cs bt ct O #[.int .i64 x0, .int .i64 x1, .int .i64 x2, .slice lao q lc] gl q lf f T1 T w' → Calls Try.prog 24 #[rkV bs cs bt ct n, .slice lao q lc] w' (fun e w'' => e = .returned (.int .i64 (setV n q lf)) ∧ Lo True W D g b cap n bs cs bt ct O #[.int .i64 x0, .int .i64 x1, .int .i64 x2, .slice lao q lc] gl q lf f T1 (setT n q lf T) w'')) := Lib.hid (fun T1 w' h =>
                (dset_fn h.lq.rk h1 h16 (.slice lao q lc) q lf (SL.out.kept h.lq.bel) (fun hq1 ao c e => by
                  injection e with e2
                  obtain ⟨ao', c', e', hs⟩ := SL.out
                  injection e' with e3
                  obtain ⟨bb, off, e4, hc⟩ := hs.resolve_left (by omega)
                  rw [e2, e4] at e3
                  have e5 : ao = ⟨bb, off, none⟩ := by injection e3
                  rw [e5]
                  have := World.block_lt_of_cell? _ _ (hc 0 (by omega))
                  have z := AP.out.b2
                  show bb ≠ bt
                  simp only at this
                  omega)).mono (fun e w'' ⟨h1, h2, h3⟩ => ⟨h1, h.doc AP.out NO.out.2 (fun p => NL.out.2.1) h2 h3⟩))
              have LA : Hid (∀ (T1 T2 : Nat → Int) (w' : World), Lo True W D g b cap n bs cs bt ct O #[.int .i64 x0, .int .i64 x1, .int .i64 x2, .slice lao q lc] gl q lf f T1 T2 w' → Calls Try.prog 25 #[.slice (some ⟨gl, 0, none⟩) q q, .slice lao q lc] w' (fun e w'' => e = .returned (.bool true) ∧ Lo True W D g b cap n bs cs bt ct O #[.int .i64 x0, .int .i64 x1, .int .i64 x2, .slice lao q lc] gl q lf f T1 T2 w'')) := Lib.hid (fun T1 T2 w' h =>
                (longs_any w' _ _ q q lf lf (h.l trivial).sees (SL.out.kept h.lq.bel) hq).mono (by
                  rintro e w3 ⟨r, hr, rfl, hb⟩
                  have : r = true := hr.2 ⟨rfl, fun _ _ => rfl⟩
                  subst this
                  exact ⟨rfl, h.kept hb⟩))
              obtain ⟨av, hav⟩ : ∃ v, setV n q lf = v := ⟨_, rfl⟩
              obtain ⟨aT, haT⟩ : ∃ v, setT n q lf T = v := ⟨_, rfl⟩
              rw [hav, haT] at CA DA
              rw [haT] at TN
              clear hav haT
              have LQ0 : Hid (Lo True W D g b cap n bs cs bt ct O #[.int .i64 x0, .int .i64 x1, .int .i64 x2, .slice lao q lc] gl q lf f T T w7.drew) := Lib.hid L7.out.drew
              go_upto_region 18 with (fail)
              go_region_held3 (fun w' => w'.cell? ⟨D, 0, none⟩ = some (.slice (some ⟨bs, 0, none⟩) n cs) ∧ w'.cell? ⟨D, 1, none⟩ = some (.slice (some ⟨bt, 0, none⟩) n ct) ∧ w'.cell? ⟨O, 0, none⟩ = some (.int .i64 x0) ∧ w'.cell? ⟨O, 1, none⟩ = some (.int .i64 x1) ∧ w'.cell? ⟨O, 2, none⟩ = some (.int .i64 x2) ∧ w'.cell? ⟨O, 3, none⟩ = some (.slice lao q lc))
                (first
                  | exact LQ0.out.cells
                  | exact LQz.out.cells
                  | exact LQe.out.cells
                  | exact LQc.out.cells
                  | exact LQr.out.cells)
                (first
                  | (go_at_call 11; refine (CA.out _ _ LQr.out).mono ?_; rintro e w' ⟨rfl, hz⟩; have LQe := Lib.hid hz; clear hz)
                  | (go_at_call 11; refine (CA.out _ _ LQ0.out).mono ?_; rintro e w' ⟨rfl, hz⟩; have LQc := Lib.hid hz; clear hz)
                  | (go_at_call 24; refine (DA.out _ _ LQc.out).mono ?_; rintro e w' ⟨rfl, hz⟩; have LQe := Lib.hid hz; clear hz)
                  | (go_at_call 24; refine (DA.out _ _ LQ0.out).mono ?_; rintro e w' ⟨rfl, hz⟩; have LQr := Lib.hid hz; clear hz)
                  | (go_at_call 25; refine (LA.out _ _ _ LQe.out).mono ?_; rintro e w' ⟨rfl, hz⟩; have LQz := Lib.hid hz; clear hz))
              all_goals
                go_split_ands
                have SP := Lib.hid (spoil_any _ gl q q _ lf (LQz.out.l trivial) hq)
                go_wp2_with fail
                refine SP.out.mono ?_
                rintro e w9 ⟨rfl, u9⟩
                have LF : Hid (Lo False W D g b cap n bs cs bt ct O #[.int .i64 x0, .int .i64 x1, .int .i64 x2, .slice lao q lc] 0 0 (fun _ => 0) f aT aT w9) := Lib.hid ⟨LQz.out.lq.else_ u9 NL.out.2.2.1 (Ne.symm NL.out.1) NL.out.2.2.2.1 NL.out.2.2.2.2.1 (Ne.symm NL.out.2.1) NL.out.2.2.2.2.2.1, u9.blk LQz.out.o NL.out.2.2.2.2.2.2, fun p => p.elim⟩
                clear u9 SP
                go_wp2_with fail
                go_meet
                exact ⟨_, TN.out, LF.out⟩
            · have d1 : (x0 == 1) = false := by rw [beq_eq_false_iff_ne]; exact q1
              by_cases q2 : x0 = 2
              · have d2 : (x0 == 2) = true := by rw [beq_iff_eq]; exact q2
                have LE := Lib.hid (least_any (cs := cs) (ct := ct) L6.out.lq.rk h1 h16)
                have e4 := L6.out.lq.d0
                have e5 := L6.out.lq.d1
                clear q0 q1 q2
                go_wp2_with fail
                refine LE.out.mono ?_
                rintro e w7 ⟨xl, hxl, rfl, b7⟩
                obtain ⟨ls, hls⟩ : ∃ v, T xl = v := ⟨_, rfl⟩
                have L7 := Lib.hid (L6.out.kept b7)
                have HX : Hid (∀ j, j < n → ls ≤ T j) := Lib.hid (fun j hj => by
                  by_cases c : j = xl
                  · rw [c]; omega
                  · have := hxl.2 j hj c
                    unfold ahd at this
                    omega)
                have HXN : Hid (xl < n ∧ T xl = ls) := Lib.hid ⟨hxl.1, hls⟩
                have TN : Hid (Tok n (fun j => T j - ls)) := Lib.hid (fun j hj => by
                  have z1 := HX.out j hj
                  have z2 := TK.out j hj
                  have z3 := TK.out xl HXN.out.1
                  have z4 := HXN.out.2
                  show 0 ≤ T j - ls ∧ T j - ls ≤ _
                  omega)
                have LSB : Hid (0 ≤ ls ∧ ls ≤ 1152921504606846976) := Lib.hid (by
                  have z3 := TK.out xl HXN.out.1
                  have z4 := HXN.out.2
                  omega)
                rw [hls]
                clear hls hxl b7 LE e4 e5 L6
                have e0 := L7.out.o.cell 0
                go_wp2_with fail
                go_loopw [14] (fun i wr => ∃ p : Nat, p ≤ n ∧ i = .int .i64 p ∧ Lo False W D g b cap n bs cs bt ct O #[.int .i64 x0, .int .i64 x1, .int .i64 x2, .slice lao q lc] 0 0 (fun _ => 0) f T (fun j => if j < p then T j - ls else T j) wr) (fun i _ => n - (intOf i).toNat)
                case atStart => exact ⟨0, by omega, rfl, ⟨⟨L7.out.lq.ck, L7.out.lq.rk.same (fun j _ => by rw [if_neg (by omega)]), L7.out.lq.d0, L7.out.lq.d1, L7.out.lq.bel⟩, L7.out.o, L7.out.l⟩⟩
                case round =>
                  obtain ⟨p, hp, rfl, lp⟩ := hrel
                  have L8 := Lib.hid lp
                  clear lp L7
                  by_cases hlp : p < n
                  · have zp : (p : Int) < n := by omega
                    have zp0 : (0 : Int) ≤ p := by omega
                    have y1 := L8.out.lq.d1
                    have y2 := L8.out.lq.rk.tm.cell hlp
                    have f2 := L8.out.lq.rk.tm.frozen p
                    rw [if_neg (by omega)] at y2
                    obtain ⟨t, ht⟩ : ∃ v, T p = v := ⟨_, rfl⟩
                    have tb := TK.out p hlp
                    have lb := LSB.out
                    rw [ht] at y2 tb
                    have ew : IntKind.i64.wrap (t - ls) = t - ls := by rw [IntKind.wrap_i64]; omega
                    have NX : Hid (Lo False W D g b cap n bs cs bt ct O #[.int .i64 x0, .int .i64 x1, .int .i64 x2, .slice lao q lc] 0 0 (fun _ => 0) f T (fun j => if j < p + 1 then T j - ls else T j) (wr.setCell ⟨bt, p, none⟩ (.int .i64 (t - ls)))) := Lib.hid (by
                      have u := (Upd.refl wr bt).set p (.int .i64 (t - ls))
                      refine L8.out.doc AP.out NO.out.2 (fun h => h.elim) ((L8.out.lq.rk.set hlp (t - ls)).same (fun j hj => ?_)) u
                      show (if j = p then t - ls else if j < p then T j - ls else T j) = _
                      by_cases e : j = p
                      · subst e; rw [if_pos rfl, if_pos (by omega), ht]
                      · rw [if_neg e]
                        by_cases e2 : j < p
                        · rw [if_pos e2, if_pos (by omega)]
                        · rw [if_neg e2, if_neg (by omega)])
                    clear ht tb lb
                    go_wp2_with fail
                    go_upto_region 26 with (fail)
                    go_region_with (fail)
                    all_goals
                      go_wp2_with fail
                      go_roundw
                      case rel => exact ⟨p + 1, by omega, by go_num, NX.out.drew⟩
                      case measure => simp [intOf]; omega
                  · have hpn : n = p := by omega
                    subst hpn
                    have NO2 := Lib.hid (norm_any L8.out.lq.ck h1 h16 TK.out)
                    have y1 := L8.out.lq.d1
                    go_wp2_with fail
                    refine NO2.out.mono ?_
                    rintro e w9 ⟨l, ⟨j, hj, ej⟩, hl2, rfl, ck9, u9⟩
                    have e9 : l = ls := by
                      have z1 := HX.out j hj
                      have z2 := hl2 xl HXN.out.1
                      have z3 := HXN.out.2
                      omega
                    subst e9
                    have L9 : Hid (Lo False W D g b cap n bs cs bt ct O #[.int .i64 x0, .int .i64 x1, .int .i64 x2, .slice lao q lc] 0 0 (fun _ => 0) f (fun j => T j - l) (fun j => T j - l) w9) := Lib.hid (by
                      have z := L8.out.prog AP.out NO.out.1 (fun h => h.elim) ck9 u9
                      exact ⟨⟨z.lq.ck, z.lq.rk.same (fun j hj => by rw [if_pos hj]), z.lq.d0, z.lq.d1, z.lq.bel⟩, z.o, z.l⟩)
                    clear hl2 ck9 u9 ej NO2
                    go_wp2_with fail
                    go_meet
                    exact ⟨_, TN.out, L9.out⟩
              · have d2 : (x0 == 2) = false := by rw [beq_eq_false_iff_ne]; exact q2
                clear q0 q1 q2
                go_wp2_with fail
                go_meet
                exact ⟨_, TK.out, L6.out⟩
        case rest =>
          obtain ⟨T', tk', l'⟩ := hcut
          have TK2 := Lib.hid tk'
          have L8 := Lib.hid l'
          have e1 := l'.o.cell 1
          have e0 := l'.lq.d0
          have e00 := l'.lq.d1
          have SM := Lib.hid (same_any wc g b cap n bs cs bt ct f T' l'.lq.ck l'.lq.rk h1 h16 x1 OK.out.2.2 TK2.out)
          clear tk' l' L6 TK
          go_wp2_with fail
          refine SM.out.mono ?_
          rintro e w9 ⟨rfl, b9⟩
          have L9 := Lib.hid (L8.out.kept b9)
          have TI := Lib.hid (times_any L9.out.lq.ck h1 h16)
          clear b9 SM L8 e0 e00 e1
          go_wp2_with fail
          refine TI.out.mono ?_
          rintro e w10 ⟨gt, ctt, rfl, hgt, at_, b10⟩
          have L10 := Lib.hid (L9.out.kept b10)
          have SP := Lib.hid (spoil_any w10 gt ctt n _ T' at_ hn44)
          have NG : Hid (W.heap.size ≤ gt ∧ b ≠ gt ∧ g ≠ gt ∧ bs ≠ gt ∧ bt ≠ gt ∧ D ≠ gt) := Lib.hid (by
            have z1 := L9.out.lq.ck.arr.lt
            have z2 := L9.out.lq.rk.tm.lt
            have z3 := L9.out.lq.rk.sc.lt
            have z4 : g < w9.heap.size := World.block_lt_of_cell? _ _ L9.out.lq.ck.hd
            have z5 : D < w9.heap.size := World.block_lt_of_cell? _ _ L9.out.lq.d0
            have z7 := L9.out.lq.bel.size
            omega)
          clear b10 at_ hgt L9 TI
          go_wp2_with fail
          refine SP.out.mono ?_
          rintro e w11 ⟨rfl, u11⟩
          have L11 := Lib.hid (L10.out.lq.else_ u11 NG.out.1 NG.out.2.1 NG.out.2.2.1 NG.out.2.2.2.1 NG.out.2.2.2.2.1 NG.out.2.2.2.2.2)
          clear u11 SP L10
          go_wp2_with fail
          go_roundw
          case rel => exact ⟨k + 1, T', by omega, by go_num, TK2.out, L11.out⟩
          case measure => simp [intOf]; omega
      · have hkm : k = m := by omega
        subst hkm
        have c0 := lq.d0
        have c1 := lq.d1
        have SM := Lib.hid (same_any wr g b cap n bs cs bt ct f T lq.ck lq.rk h1 h16 0 OK.out.2.2 TK.out)
        clear lq
        go_wp2_with fail
        refine SM.out.mono ?_
        rintro e w6 ⟨rfl, b6⟩
        have B6 := Lib.hid (LQ.out.bel.trans (b6.mono LQ.out.bel.size))
        clear b6 SM
        go_wp2_with fail
        go_ret
        exact ⟨rfl, B6.out⟩
end Go.Proofs.Ytfigepnpegnhkaa
namespace Go.Proofs.Ytfigepnpegnhkaa.clockRuns
open Go.ChangeShapes Go.WideShapes Go.ChangeAt Go.RowKit
theorem walk (H : Type) (enc : TypeId × Value → H) (W : World) (base : Nat) (v0 v1 : Value) {d0 d1 : DataW H} {p0 p1 : List MemPlace}
    (k0 : Value.okWide Try.prog W .any base 22 v0) (h0 : DataW.Trod enc Try.prog W 0 (fun _ => true) true 22 v0 d0 p0)
    (k1 : Value.okWide Try.prog W .any base 46 v1) (h1 : DataW.Trod enc Try.prog W 0 (fun _ => true) true 46 v1 d1 p1)
    (hsz : (DataW.weightsEach Try.prog [22, 46] [d0, d1]).all (· ≤ reachBytes) = true) :
    Calls Try.prog 7 #[v0, v1] W fun e w' => e = .returned (.bool true) ∧ Below W.heap.size W w' := by
  obtain ⟨n, f, S0, hn, _, _⟩ := openRow (B := 8) Try.underlying22 Try.underlying2 (by kernel_rfl) (by kernel_rfl) k0 h0 (fun elems spare e => sized_slice hsz (j := 0) (t := 22) (e := 2) rfl (by rw [← e]; rfl) Try.underlying22)
  obtain ⟨m, wh, ix, nn, lv, S1, hm, hl⟩ := openOps (B := 8) Try.underlying46 Try.underlying53 (by kernel_rfl) rfl rfl rfl rfl (by kernel_rfl) (by kernel_rfl) (by kernel_rfl) (by kernel_rfl) Try.underlying3 Try.underlying3 Try.underlying3 Try.underlying22 Try.underlying2 (by kernel_rfl) (by kernel_rfl) k1 h1
    (fun x hx => by have := List.all_eq_true.1 hsz _ (DataW.weights_mem_each (j := 1) rfl rfl x hx); simpa using this)
  exact clockRuns_law v0 v1 n m f wh ix nn lv W S0 S1 (by omega) hm (fun j hj => by
    obtain ⟨_, _, _, q, h, s, hq, _⟩ := hl j hj
    exact ⟨q, h, s, by omega⟩)
end Go.Proofs.Ytfigepnpegnhkaa.clockRuns
