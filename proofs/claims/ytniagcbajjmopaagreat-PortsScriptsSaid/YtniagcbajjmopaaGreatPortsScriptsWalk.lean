/- PortsScripts: the walk. -/
import Derived.Test.YtniagcbajjmopaaGreatPortsRj
import Derived.Test.YtniagcbajjmopaaGreatOpens
import Derived.Deep.RegionHeld3
import Derived.Deep.CutRange
import Derived.WalkKit
import Derived.ProofKit
import Derived.OpenShut
namespace Go.Proofs.YtniagcbajjmopaaGreat.portsScripts
open Go.RowKit
set_option linter.unusedVariables false
set_option linter.unusedSimpArgs false
set_option maxRecDepth 100000
abbrev evA (x0 x1 x2 x3 : Int) : Array Value := #[.int .i64 x0, .int .u16 x1, .int .u8 x2, .int .i64 x3]
set_option maxHeartbeats 8000000 in
theorem law (W : World) (v : Value) (n : Nat) (f0 f1 f2 f3 : Nat → Int) (SF : SeesFour W .i64 .u16 .u8 .i64 v n f0 f1 f2 f3) (hn : n ≤ 9223372036854775807)
    (wf : ∀ j, j < n → (-9223372036854775808 ≤ f0 j ∧ f0 j ≤ 9223372036854775807) ∧ (0 ≤ f1 j ∧ f1 j ≤ 65535) ∧ (0 ≤ f2 j ∧ f2 j ≤ 255) ∧ (-9223372036854775808 ≤ f3 j ∧ f3 j ≤ 9223372036854775807)) :
    Calls Tryz.prog 3 #[v] W (Says W (.bool true)) := by
  have AW := Lib.hid awake_any
  obtain ⟨ao, c, rfl, hs⟩ := SF
  have HS := Lib.hid hs
  have WF := Lib.hid wf
  clear hs wf
  go_enter Tryz.func3, Tryz.ntmps3
  try simp only [List.append_eq, List.cons_append, List.nil_append]
  go_wp2_with fail
  refine (new_any W).mono ?_
  rintro e w1 ⟨g0, rfl, hg0, a1, b1⟩
  have A1 := Lib.hid a1
  have B1 := Lib.hid b1
  have HG := Lib.hid hg0
  clear a1 b1 hg0
  go_upto_region 3 with (fail)
  obtain ⟨B, hB⟩ : ∃ B, B = w1.heap.size := ⟨_, rfl⟩
  obtain ⟨w2, hw2⟩ : ∃ w2, w2 = w1.alloc (.cells Pt.zero.rs 28) := ⟨_, rfl⟩
  have J2 : Hid (Jn W B g0 Pt.zero 1500000 w2) := Lib.hid (by
    have h1 := A1.out.lt
    have h2 := B1.out.size
    rw [hw2, hB]
    exact ⟨A1.out.kept (belowA (Below.refl _ _) _), Blk.new _ _ _, by omega, HG.out, h2, belowA B1.out _, good_zero, by omega, rfl⟩)
  rw [← hB]
  change Code.wp _ _ _ _ (w1.alloc (.cells Pt.zero.rs 28))
  rw [← hw2]
  clear hB hw2 A1 B1 HG
  go_wp2_with fail
  go_loopw [3, 5, 19] (fun p l i wr => ∃ (k g : Nat) (s : Pt) (lf : Int), k ≤ n ∧ i = .int .i64 k ∧ p = poP g ∧ l = .int .i64 lf ∧ Jn W B g s lf wr) (fun _ _ i _ => n - (intOf i).toNat)
  case atStart => exact ⟨0, g0, Pt.zero, 1500000, by omega, rfl, rfl, rfl, J2.out⟩
  case round =>
    obtain ⟨k, g, s, lf, hk, rfl, rfl, rfl, jn⟩ := hrel
    have JN := Lib.hid jn
    clear jn J2
    by_cases hlt : k < n
    · have zk : (k : Int) < n := by omega
      obtain ⟨b1, of1, rfl, hcells⟩ := HS.out.resolve_left (by omega)
      obtain ⟨h0, h1, h2, h3⟩ := hcells k hlt
      have y0 := keepC JN.out.bel h0
      have y1 := keepC JN.out.bel h1
      have y2 := keepC JN.out.bel h2
      have y3 := keepC JN.out.bel h3
      have wfk := WF.out k hlt
      obtain ⟨x0, hx0⟩ : ∃ x, f0 k = x := ⟨_, rfl⟩
      obtain ⟨x1, hx1⟩ : ∃ x, f1 k = x := ⟨_, rfl⟩
      obtain ⟨x2, hx2⟩ : ∃ x, f2 k = x := ⟨_, rfl⟩
      obtain ⟨x3, hx3⟩ : ∃ x, f3 k = x := ⟨_, rfl⟩
      rw [hx0] at y0 wfk
      rw [hx1] at y1 wfk
      rw [hx2] at y2 wfk
      rw [hx3] at y3 wfk
      have XB := Lib.hid wfk
      clear hx0 hx1 hx2 hx3 wfk h0 h1 h2 h3 hcells HS
      go_upto_region 7 with (fail)
      obtain ⟨w6, hw6⟩ : ∃ w6, w6 = wr.alloc (.cells (evA x0 x1 x2 x3) 30) := ⟨_, rfl⟩
      obtain ⟨e, he⟩ : ∃ e, e = wr.heap.size := ⟨_, rfl⟩
      have L6 : Hid (Jo W B g e (evA x0 x1 x2 x3) s s w6) := Lib.hid (by rw [hw6, he]; exact JN.out.open_ _ (belowA (Below.refl _ _) _) (Blk.new _ _ _))
      have GD := Lib.hid JN.out.good
      have LF : Hid (0 ≤ lf ∧ s.now = 1500000 - lf) := Lib.hid ⟨JN.out.l0, JN.out.now⟩
      rw [← hw6, ← he]
      clear hw6 he JN y0 y1 y2 y3
      have e0 := L6.out.o.cell 0
      go_upto_block 2 with fail
      go_cut [3, 5] from 24 to 151 (fun p l wx => ∃ (g' : Nat) (s' : Pt) (lf' : Int), p = poP g' ∧ l = .int .i64 lf' ∧ 0 ≤ lf' ∧ s'.now = 1500000 - lf' ∧ Good s' ∧ Jo W B g' e (evA x0 x1 x2 x3) s' s' wx)
      case first =>
        have d1 := L6.out.o.cell 1
        have d2 := L6.out.o.cell 2
        have d3 := L6.out.o.cell 3
        by_cases q0 : x0 = 0
        · have t0 : (x0 == 0) = true := by rw [beq_iff_eq]; exact q0
          have CA : Hid (∀ (d : Pt) (w' : World), Jo W B g e (evA x0 x1 x2 x3) s d w' → Calls Tryz.prog 5 #[poP g, .int .u16 x1, .int .u8 x2] w' (fun e' w'' => e' = .returned (.bool (wrP x1 x2 s).1) ∧ Jo W B g e (evA x0 x1 x2 x3) (wrP x1 x2 s).2 d w'')) := Lib.hid (fun d w' h =>
            (write_gen h.po GD.out.fit x1 x2 XB.out.2.2.1.1 XB.out.2.2.1.2).mono (fun e' w'' ⟨h1, h2, h3⟩ => ⟨h1, h.prog h2 h3⟩))
          have DA : Hid (∀ (s1 : Pt) (w' : World), Jo W B g e (evA x0 x1 x2 x3) s1 s w' → Calls Tryz.prog 6 #[dpP B, .int .u16 x1, .int .u8 x2] w' (fun e' w'' => e' = .returned (.bool (wrP x1 x2 s).1) ∧ Jo W B g e (evA x0 x1 x2 x3) s1 (wrP x1 x2 s).2 w'')) := Lib.hid (fun s1 w' h =>
            (dwrite_any h.dp GD.out.fit x1 x2 XB.out.2.2.1.1 XB.out.2.2.1.2).mono (fun e' w'' ⟨h1, h2, h3⟩ => ⟨h1, h.doc h2 h3⟩))
          have G2 := Lib.hid (GD.out.write x1 x2 XB.out.2.2.1.1 XB.out.2.2.1.2)
          obtain ⟨av, hav⟩ : ∃ v, (wrP x1 x2 s).1 = v := ⟨_, rfl⟩
          obtain ⟨s2, hs2⟩ : ∃ v, (wrP x1 x2 s).2 = v := ⟨_, rfl⟩
          rw [hav, hs2] at CA DA
          rw [hs2] at G2
          have LQ0 := Lib.hid L6.out.drew
          clear hav hs2 q0
          go_upto_region 16 with (fail)
          go_region_held3 (fun w' => w'.cell? ⟨e, 1, none⟩ = some (.int .u16 x1) ∧ w'.cell? ⟨e, 2, none⟩ = some (.int .u8 x2))
            (first
              | with_reducible exact ⟨LQ0.out.o.cell 1, LQ0.out.o.cell 2⟩
              | with_reducible exact ⟨LQe.out.o.cell 1, LQe.out.o.cell 2⟩
              | with_reducible exact ⟨LQc.out.o.cell 1, LQc.out.o.cell 2⟩
              | exact ⟨LQ0.out.o.cell 1, LQ0.out.o.cell 2⟩
              | exact ⟨LQe.out.o.cell 1, LQe.out.o.cell 2⟩
              | exact ⟨LQc.out.o.cell 1, LQc.out.o.cell 2⟩)
            (first
              | (go_at_call 5; refine (CA.out _ _ LQ0.out).mono ?_; rintro e' w' ⟨rfl, hz⟩; have LQc := Lib.hid hz; clear hz)
              | (go_at_call 6; refine (DA.out _ _ LQc.out).mono ?_; rintro e' w' ⟨rfl, hz⟩; have LQe := Lib.hid hz; clear hz))
          all_goals
            go_split_ands
            go_wp2_with fail
            go_meet
            case rel => exact ⟨g, s2, lf, rfl, rfl, LF.out.1, G2.out.2.trans LF.out.2, G2.out.1, LQe.out⟩
        · have t0 : (x0 == 0) = false := by rw [beq_eq_false_iff_ne]; exact q0
          by_cases q1 : x0 = 1
          · have t1 : (x0 == 1) = true := by rw [beq_iff_eq]; exact q1
            have DA : Hid (∀ (w' : World), Jo W B g e (evA x0 x1 x2 x3) s s w' → Calls Tryz.prog 7 #[dpP B, .int .u16 x1, .int .u8 x2] w' (fun e' w'' => e' = .returned (.tuple #[.int .u8 (readP x1 x2 s).1.1, .bool (readP x1 x2 s).1.2]) ∧ Jo W B g e (evA x0 x1 x2 x3) s (readP x1 x2 s).2 w'')) := Lib.hid (fun w' h =>
              (dread_any h.dp GD.out.fit x1 x2 XB.out.2.2.1.1 XB.out.2.2.1.2).mono (fun e' w'' ⟨h1, h2, h3⟩ => ⟨h1, h.doc h2 h3⟩))
            have CA : Hid (∀ (d : Pt) (w' : World), Jo W B g e (evA x0 x1 x2 x3) s d w' → Calls Tryz.prog 8 #[poP g, .int .u16 x1, .int .u8 x2] w' (fun e' w'' => e' = .returned (.tuple #[.int .u8 (readP x1 x2 s).1.1, .bool (readP x1 x2 s).1.2]) ∧ Jo W B g e (evA x0 x1 x2 x3) (readP x1 x2 s).2 d w'')) := Lib.hid (fun d w' h =>
              (read_gen h.po GD.out.fit x1 x2 XB.out.2.2.1.1 XB.out.2.2.1.2).mono (fun e' w'' ⟨h1, h2, h3⟩ => ⟨h1, h.prog h2 h3⟩))
            have G2 := Lib.hid (GD.out.read x1 x2)
            obtain ⟨av, hav⟩ : ∃ v, (readP x1 x2 s).1.1 = v := ⟨_, rfl⟩
            obtain ⟨bv, hbv⟩ : ∃ v, (readP x1 x2 s).1.2 = v := ⟨_, rfl⟩
            obtain ⟨s2, hs2⟩ : ∃ v, (readP x1 x2 s).2 = v := ⟨_, rfl⟩
            rw [hav, hbv, hs2] at CA DA
            rw [hs2] at G2
            clear hav hbv hs2 q0 q1
            go_wp2_with fail
            refine (DA.out _ L6.out).mono ?_
            rintro e' w7 ⟨rfl, hz⟩
            have L7 := Lib.hid hz
            have k1 := hz.o.cell 1
            have k2 := hz.o.cell 2
            clear hz d1 d2 d3 e0 L6 DA
            go_wp2_with fail
            refine (CA.out _ _ L7.out).mono ?_
            rintro e' w8 ⟨rfl, hz⟩
            have L8 := Lib.hid hz
            clear hz k1 k2 L7 CA
            go_wp2_with fail
            go_meet
            case rel => exact ⟨g, s2, lf, rfl, rfl, LF.out.1, G2.out.2.trans LF.out.2, G2.out.1, L8.out⟩
          · have t1 : (x0 == 1) = false := by rw [beq_eq_false_iff_ne]; exact q1
            by_cases q2 : x0 = 2
            · have t2 : (x0 == 2) = true := by rw [beq_iff_eq]; exact q2
              have v0 := XB.out.2.2.1.1
              have v1 := XB.out.2.2.1.2
              have wx : IntKind.u16.wrap x2 = x2 := by rw [IntKind.wrap_u16]; omega
              have wm : IntKind.u16.wrap (x2 * 257) = x2 * 257 := by rw [IntKind.wrap_u16]; omega
              obtain ⟨m, hm⟩ : ∃ m, x2 * 257 = m := ⟨_, rfl⟩
              have HM : Hid (0 ≤ m ∧ m ≤ 65535) := Lib.hid (by omega)
              rw [hm] at wm
              have wm' : IntKind.u16.wrap m = m := by have := HM.out; rw [IntKind.wrap_u16]; omega
              clear q0 q1 q2 v0 v1
              by_cases p0 : x3 = 0
              · subst p0
                have PA : Hid (Calls Tryz.prog 9 #[poP g, .int .i64 0, .int .u16 m] w6 (fun e' w'' => e' = .returned (.int .i64 0) ∧ Jo W B g e (evA x0 x1 x2 0) { s with say0 := m } s w'')) := Lib.hid ((pad_0 L6.out.po m).mono (fun e' w'' ⟨h1, h2, h3⟩ => ⟨h1, L6.out.prog h2 h3⟩))
                have G2 := Lib.hid (GD.out.pad0 m HM.out.1 HM.out.2)
                go_wp2_with fail
                refine PA.out.mono ?_
                rintro e' w7 ⟨rfl, hz⟩
                have L7 := Lib.hid hz
                have k0 := hz.o.cell 0
                have k1 := hz.o.cell 1
                have k2 := hz.o.cell 2
                have k3 := hz.o.cell 3
                have b13 := hz.dp.cell 13
                have fr := hz.dp.frozen 13
                have L8 : Hid (Jo W B g e (evA x0 x1 x2 0) { s with say0 := m } { s with say0 := m } (w7.setCell ⟨B, 13, none⟩ (.int .u16 m))) := Lib.hid (hz.doc (hz.dp.set_ 13 _) ((Upd.refl _ _).set _ _))
                clear hz d1 d2 d3 e0 L6 PA L7
                go_wp2_with fail
                try rw [hm]
                go_meet
                case rel => exact ⟨g, { s with say0 := m }, lf, rfl, rfl, LF.out.1, LF.out.2, G2.out, L8.out⟩
              · by_cases p1 : x3 = 1
                · subst p1
                  have PA : Hid (Calls Tryz.prog 9 #[poP g, .int .i64 1, .int .u16 m] w6 (fun e' w'' => e' = .returned (.int .i64 0) ∧ Jo W B g e (evA x0 x1 x2 1) { s with say1 := m } s w'')) := Lib.hid ((pad_1 L6.out.po m).mono (fun e' w'' ⟨h1, h2, h3⟩ => ⟨h1, L6.out.prog h2 h3⟩))
                  have G2 := Lib.hid (GD.out.pad1 m HM.out.1 HM.out.2)
                  go_wp2_with fail
                  refine PA.out.mono ?_
                  rintro e' w7 ⟨rfl, hz⟩
                  have L7 := Lib.hid hz
                  have k0 := hz.o.cell 0
                  have k1 := hz.o.cell 1
                  have k2 := hz.o.cell 2
                  have k3 := hz.o.cell 3
                  have b13 := hz.dp.cell 14
                  have fr := hz.dp.frozen 14
                  have L8 : Hid (Jo W B g e (evA x0 x1 x2 1) { s with say1 := m } { s with say1 := m } (w7.setCell ⟨B, 14, none⟩ (.int .u16 m))) := Lib.hid (hz.doc (hz.dp.set_ 14 _) ((Upd.refl _ _).set _ _))
                  clear hz d1 d2 d3 e0 L6 PA L7
                  go_wp2_with fail
                  try rw [hm]
                  go_meet
                  case rel => exact ⟨g, { s with say1 := m }, lf, rfl, rfl, LF.out.1, LF.out.2, G2.out, L8.out⟩
                · have PA : Hid (Calls Tryz.prog 9 #[poP g, .int .i64 x3, .int .u16 m] w6 (fun e' w'' => e' = .returned (.int .i64 3) ∧ Jo W B g e (evA x0 x1 x2 x3) s s w'')) := Lib.hid ((pad_no L6.out.po x3 m (by omega)).mono (fun e' w'' ⟨h1, h2⟩ => ⟨h1, L6.out.kept h2⟩))
                  rcases (show x3 < 0 ∨ (0 ≤ x3 ∧ 1 < x3) by omega) with z | ⟨z, z2⟩
                  all_goals
                    go_wp2_with fail
                    refine PA.out.mono ?_
                    rintro e' w7 ⟨rfl, hz⟩
                    have L7 := Lib.hid hz
                    have k0 := hz.o.cell 0
                    have k1 := hz.o.cell 1
                    have k2 := hz.o.cell 2
                    have k3 := hz.o.cell 3
                    clear hz d1 d2 d3 e0 L6 PA
                    go_wp2_with fail
                    go_meet
                    case rel => exact ⟨g, s, lf, rfl, rfl, LF.out.1, LF.out.2, GD.out, L7.out⟩
            · have t2 : (x0 == 2) = false := by rw [beq_eq_false_iff_ne]; exact q2
              by_cases q3 : x0 = 3
              · have t3 : (x0 == 3) = true := by rw [beq_iff_eq]; exact q3
                have em : x2.tmod 2 = x2 % 2 := Int.tmod_eq_emod_of_nonneg XB.out.2.2.1.1
                have wx : IntKind.u8.wrap (x2 % 2) = x2 % 2 := by rw [IntKind.wrap_u8]; omega
                obtain ⟨b, hb⟩ : ∃ b, (x2 % 2 == 1) = b := ⟨_, rfl⟩
                have PA : Hid (Calls Tryz.prog 10 #[poP g, .bool b] w6 (fun e' w'' => e' = .returned (.tuple #[]) ∧ Jo W B g e (evA x0 x1 x2 x3) { s with over := b, soon := 0 } s w'')) := Lib.hid ((over_any L6.out.po b).mono (fun e' w'' ⟨h1, h2, h3⟩ => ⟨h1, L6.out.prog h2 h3⟩))
                have G2 : Hid (Good { s with over := b, soon := 0 }) := Lib.hid (GD.out.other b s.come 0 (soon_zero rfl GD.out.fit.base.n0))
                clear q0 q1 q2 q3
                go_wp2_with fail
                refine PA.out.mono ?_
                rintro e' w7 ⟨rfl, hz⟩
                have L7 := Lib.hid hz
                have k2 := hz.o.cell 2
                have fr := hz.dp.frozen 21
                have b21 := hz.dp.cell 21
                have L8 : Hid (Jo W B g e (evA x0 x1 x2 x3) { s with over := b, soon := 0 } { s with over := b, soon := 0 } (w7.setCell ⟨B, 21, none⟩ (.bool b))) := Lib.hid (hz.doc (hz.dp.set_ 21 _) ((Upd.refl _ _).set _ _))
                clear hz d1 d2 d3 e0 L6 PA L7
                go_wp2_with fail
                go_meet
                case rel => exact ⟨g, { s with over := b, soon := 0 }, lf, rfl, rfl, LF.out.1, LF.out.2, G2.out, L8.out⟩
              · have t3 : (x0 == 3) = false := by rw [beq_eq_false_iff_ne]; exact q3
                by_cases q4 : x0 = 4
                · have t4 : (x0 == 4) = true := by rw [beq_iff_eq]; exact q4
                  obtain ⟨b, hb⟩ : ∃ b, s.come = b := ⟨_, rfl⟩
                  have CA : Hid (∀ (d : Pt) (w' : World), Jo W B g e (evA x0 x1 x2 x3) s d w' → Calls Tryz.prog 11 #[poP g] w' (fun e' w'' => e' = .returned (.bool b) ∧ Jo W B g e (evA x0 x1 x2 x3) { s with come := false } d w'')) := Lib.hid (fun d w' h =>
                    (nmi_any h.po).mono (fun e' w'' ⟨h1, h2, h3⟩ => ⟨by rw [← hb]; exact h1, h.prog h2 h3⟩))
                  have G2 : Hid (Good { s with come := false }) := Lib.hid (GD.out.other s.over false s.soon GD.out.soon)
                  have K11 : Hid (∀ (s1 : Pt) (w' : World), Jo W B g e (evA x0 x1 x2 x3) s1 s w' → w'.cell? ⟨B, 11, none⟩ = some (.bool b)) := Lib.hid (fun s1 w' h => by rw [← hb]; exact h.dp.cell 11)
                  have LQ0 := Lib.hid L6.out.drew
                  clear q0 q1 q2 q3 q4
                  go_upto_region 33 with (fail)
                  go_region_held3 (fun w' => w'.cell? ⟨B, 11, none⟩ = some (.bool b))
                    (first
                      | with_reducible exact K11.out _ _ LQ0.out
                      | with_reducible exact K11.out _ _ LQc.out
                      | exact K11.out _ _ LQ0.out
                      | exact K11.out _ _ LQc.out)
                    (first
                      | (go_at_call 11; refine (CA.out _ _ LQ0.out).mono ?_; rintro e' w' ⟨rfl, hz⟩; have LQc := Lib.hid hz; clear hz))
                  all_goals
                    go_split_ands
                    have hz := LQc.out
                    have fr := hz.dp.frozen 11
                    have L8 : Hid (Jo W B g e (evA x0 x1 x2 x3) { s with come := false } { s with come := false } (World.setCell _ ⟨B, 11, none⟩ (.bool false))) := Lib.hid (hz.doc (hz.dp.set_ 11 _) ((Upd.refl _ _).set _ _))
                    clear hz LQc LQ0 CA K11 d1 d2 d3 e0 L6
                    go_wp2_with fail
                    go_meet
                    case rel => exact ⟨g, { s with come := false }, lf, rfl, rfl, LF.out.1, LF.out.2, G2.out, L8.out⟩
                · have t4 : (x0 == 4) = false := by rw [beq_eq_false_iff_ne]; exact q4
                  by_cases q5 : x0 = 5
                  · have t5 : (x0 == 5) = true := by rw [beq_iff_eq]; exact q5
                    have SV := Lib.hid (savedPo_any L6.out.po GD.out.fit.rng)
                    clear q0 q1 q2 q3 q4 q5
                    go_wp2_with fail
                    refine SV.out.mono ?_
                    rintro e' w7 ⟨vf, rfl, hf, b7⟩
                    have L7 := Lib.hid (L6.out.kept b7)
                    have LD := Lib.hid (loaded_any hf GD.out)
                    clear hf b7 SV d1 d2 d3 e0 L6
                    go_wp2_with fail
                    refine LD.out.mono ?_
                    rintro e' w8 ⟨q, rfl, hq, a8, b8⟩
                    have L8 : Hid (Jo W B q e (evA x0 x1 x2 x3) { s with soon := 0 } { s with soon := 0 } w8) := Lib.hid ((L7.out.next hq a8 b8).dlike rfl)
                    have G2 := Lib.hid GD.out.zero
                    clear hq a8 b8 L7 LD
                    go_wp2_with fail
                    go_meet
                    case rel => exact ⟨q, { s with soon := 0 }, lf, rfl, rfl, LF.out.1, LF.out.2, G2.out, L8.out⟩
                  · have t5 : (x0 == 5) = false := by rw [beq_eq_false_iff_ne]; exact q5
                    obtain ⟨nw, hnw⟩ : ∃ x, s.now = x := ⟨_, rfl⟩
                    have l0 := LF.out.1
                    have ln := LF.out.2
                    have xb := XB.out.2.2.2
                    rw [hnw] at ln
                    have n0 := GD.out.fit.base.n0
                    rw [hnw] at n0
                    obtain ⟨m, hm⟩ : ∃ m : Int, (lf < x3 ∧ m = lf) ∨ (x3 ≤ lf ∧ m = x3) := by
                      by_cases z1 : lf < x3
                      · exact ⟨_, Or.inl ⟨z1, rfl⟩⟩
                      · exact ⟨_, Or.inr ⟨by omega, rfl⟩⟩
                    obtain ⟨lf2, hm2⟩ : ∃ lf2 : Int, (0 < m ∧ lf - m = lf2) ∨ (m ≤ 0 ∧ lf = lf2) := by
                      by_cases z1 : 0 < m
                      · exact ⟨_, Or.inl ⟨z1, rfl⟩⟩
                      · exact ⟨_, Or.inr ⟨by omega, rfl⟩⟩
                    obtain ⟨T, hT⟩ : ∃ x, nw + m = x := ⟨_, rfl⟩
                    have wT : IntKind.i64.wrap (nw + m) = T := by rw [IntKind.wrap_i64]; omega
                    have WL : Hid (0 < m → lf - m = lf2 → IntKind.i64.wrap (lf - m) = lf2) := Lib.hid (fun z1 z2 => by rw [IntKind.wrap_i64]; omega)
                    obtain ⟨r, d2, T2, hT2, AC⟩ := adv_both GD.out T (by omega)
                    rw [hnw] at hT2
                    have T2L : Hid (0 ≤ lf2 ∧ T2 = 1500000 - lf2) := Lib.hid (by
                      rw [hT2]
                      refine ⟨by omega, ?_⟩
                      split <;> omega)
                    have CA := Lib.hid (AC W B g e (evA x0 x1 x2 x3)).1
                    have DA := Lib.hid (AC W B g e (evA x0 x1 x2 x3)).2
                    have K0 : Hid (∀ (s1 : Pt) (w' : World), Jo W B g e (evA x0 x1 x2 x3) s1 s w' → w'.cell? ⟨B, 0, none⟩ = some (.int .i64 nw)) := Lib.hid (fun s1 w' h => by rw [← hnw]; exact h.dp.cell 0)
                    have LQ0 := Lib.hid L6.out.drew
                    have LQ1 : Hid (Jo W B g e (evA x0 x1 x2 x3) s s w6) := L6
                    have kq0 := K0.out _ _ L6.out
                    have kq1 := K0.out _ _ L6.out.drew
                    clear q0 q1 q2 q3 q4 q5 hnw ln hT hT2 AC XB n0 l0 xb
                    go_upto_if 29 with (fail)
                    go_cut [15] from 24 to 35 (fun v15 wx => v15 = .int .i64 m ∧ wx = w6)
                    case first =>
                      rcases hm with ⟨z1, rfl⟩ | ⟨z1, rfl⟩
                      all_goals
                        go_wp2_with fail
                        go_meet
                        case rel => exact ⟨rfl, rfl⟩
                    obtain ⟨rfl, hcut⟩ := hcut
                    subst hcut
                    go_upto_if 32 with (fail)
                    go_cut [5] from 24 to 35 (fun v5 wx => v5 = .int .i64 lf2 ∧ wx = wc)
                    case first =>
                      rcases hm2 with ⟨z1, z2⟩ | ⟨z1, z2⟩
                      · have wl := WL.out z1 z2
                        clear z2
                        go_wp2_with fail
                        go_meet
                        case rel => exact ⟨by first | rfl | (rw [wl]; done), rfl⟩
                      · go_wp2_with fail
                        go_meet
                        case rel => exact ⟨by rw [z2], rfl⟩
                    obtain ⟨rfl, hcut⟩ := hcut
                    subst hcut
                    go_upto_region 13 with (fail)
                    go_region_with (first
                      | (go_at_call 14; (first | with_reducible refine (CA.out _ _ LQ0.out).mono ?_ | with_reducible refine (CA.out _ _ LQ1.out).mono ?_ | refine (CA.out _ _ LQ0.out).mono ?_); rintro e' w' ⟨rfl, s', hs', hz⟩; have HS' := Lib.hid hs'; have LQc := Lib.hid hz; have kq := K0.out _ _ hz; clear hz hs')
                      | (go_at_call 15; refine (DA.out _ _ LQc.out).mono ?_; rintro e' w' ⟨rfl, hz⟩; have LQe := Lib.hid (hz.dlike HS'.out.1); clear hz))
                    all_goals
                      go_wp2_with fail
                      go_meet
                      case rel => exact ⟨g, _, lf2, rfl, rfl, T2L.out.1, HS'.out.2.2.trans T2L.out.2, HS'.out.2.1, by first | exact LQe.out | exact LQe.out.drew⟩
      obtain ⟨g1, s1, lf1, rfl, rfl, hl, hnow, hgd, jo⟩ := hcut
      have LZ : Hid (Jo W B g1 e (evA x0 x1 x2 x3) s1 s1 wc) := Lib.hid jo
      have G1 := Lib.hid hgd
      have LF1 : Hid (0 ≤ lf1 ∧ s1.now = 1500000 - lf1) := Lib.hid ⟨hl, hnow⟩
      clear jo hgd hl hnow L6 GD LF XB e0
      go_upto_region 41 with (fail)
      refine region41 LZ.out G1.out.fit.rng _ _ rfl rfl rfl _ ?_
      intro us w9 hb h178
      have J9 := Lib.hid (LZ.out.kept hb)
      clear hb LZ
      rw [scOps_dst]
      simp only [fill, List.contains_cons, List.contains_nil, Nat.zero_add, Nat.reduceAdd, Nat.reduceBEq, Bool.or_false, Bool.or_true, Bool.false_or, Bool.true_or, Bool.or_self, Bool.false_eq_true, if_true, if_false]
      rw [h178]
      go_wp2_with fail
      go_roundw
      case rel => exact ⟨k + 1, g1, s1, lf1, by omega, by go_num, rfl, rfl, J9.out.shut G1.out LF1.out.1 LF1.out.2⟩
      case measure => simp [intOf]; omega
    · have hkn : k = n := by omega
      have BL := Lib.hid JN.out.bel
      clear JN HS WF
      go_wp2_with fail
      refine (AW.out _).mono ?_
      rintro e wz ⟨rfl, hz⟩
      have BZ := Lib.hid (BL.out.trans (hz.mono BL.out.size))
      clear hz
      go_wp2_with fail
      go_ret
      exact ⟨rfl, BZ.out⟩
open Go.WideShapes Go.ChangeAt in
theorem walk (H : Type) (enc : TypeId × Value → H) (W : World) (base : Nat) (v0 : Value) {d0 : DataW H} {p0 : List MemPlace}
    (k0 : Value.okWide Tryz.prog W .any base 22 v0) (h0 : DataW.Trod enc Tryz.prog W 0 (fun _ => true) true 22 v0 d0 p0) :
    Calls Tryz.prog 3 #[v0] W fun e w' => e = .returned (.bool true) ∧ Below W.heap.size W w' := by
  obtain ⟨m, f0, f1, f2, f3, S, hm, hw⟩ := openFour Tryz.underlying22 Tryz.underlying30 (by kernel_rfl) rfl rfl rfl rfl (by kernel_rfl) (by kernel_rfl) (by kernel_rfl) (by kernel_rfl) Tryz.underlying3 Tryz.underlying25 Tryz.underlying5 Tryz.underlying3 k0 h0
  exact law W v0 m f0 f1 f2 f3 S hm (fun j hj => ⟨wf_i64 (hw j hj).1, wf_u16 (hw j hj).2.1, wf_u8 (hw j hj).2.2.1, wf_i64 (hw j hj).2.2.2⟩)
end Go.Proofs.YtniagcbajjmopaaGreat.portsScripts
