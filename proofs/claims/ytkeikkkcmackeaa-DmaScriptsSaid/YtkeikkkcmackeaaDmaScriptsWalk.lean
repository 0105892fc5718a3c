/- DmaScripts: the walk. -/
import Derived.Test.YtkeikkkcmackeaaDmaNs
import Derived.Test.YtkeikkkcmackeaaDmaZ
import Derived.Test.YtkeikkkcmackeaaOpens
import Derived.Deep.RegionHeld3
import Derived.Deep.CutRange
import Derived.WalkKit
import Derived.ProofKit
import Derived.OpenShut
namespace Go.Proofs.Ytkeikkkcmackeaa.dmaScripts
open Go.RowKit
set_option linter.unusedVariables false
set_option linter.unusedSimpArgs false
set_option maxRecDepth 100000
abbrev evA (x0 x1 x2 x3 : Int) : Array Value := #[.int .i64 x0, .int .u16 x1, .int .u8 x2, .int .i64 x3]
set_option maxHeartbeats 16000000 in
theorem law (W : World) (v0 v : Value) (n m : Nat) (h f0 f1 f2 f3 : Nat → Int) (SB : Sees W .u8 v0 m h) (hm : m ≤ 9223372036854775807) (hwf : ∀ j, j < m → 0 ≤ h j ∧ h j ≤ 255) (SF : SeesFour W .i64 .u16 .u8 .i64 v n f0 f1 f2 f3) (hn : n ≤ 9223372036854775807)
    (wf : ∀ j, j < n → (-9223372036854775808 ≤ f0 j ∧ f0 j ≤ 9223372036854775807) ∧ (0 ≤ f1 j ∧ f1 j ≤ 65535) ∧ (0 ≤ f2 j ∧ f2 j ≤ 255) ∧ (-9223372036854775808 ≤ f3 j ∧ f3 j ≤ 9223372036854775807)) :
    Calls Try.prog 6 #[v0, v] W (Says W (.bool true)) := by
  have AW := Lib.hid awake_any
  have BY : Hid (∀ a : Int, 0 ≤ a → a ≤ 4294967295 → ∃ y : Int, (0 ≤ y ∧ y ≤ 255) ∧ ∀ w', Below W.heap.size W w' → Calls Try.prog 27 #[v0, .int .u32 a] w' (Says w' (.int .u8 y))) := Lib.hid (fun a a0 a1 => by
    refine ⟨byteN m h a, ?_, fun w' hb => byteAt_any v0 m h w' (SB.kept hb) hm a a0 a1⟩
    unfold byteN
    by_cases z : m = 0
    · rw [if_pos z]; omega
    · rw [if_neg z]
      have i0 : 0 ≤ a % m := Int.emod_nonneg _ (by omega)
      have i1 : a % m < m := Int.emod_lt_of_pos _ (by omega)
      exact hwf _ (by omega))
  obtain ⟨ao0, c0, rfl, _⟩ := SB
  obtain ⟨ao, c, rfl, hs⟩ := SF
  have HS := Lib.hid hs
  have WF := Lib.hid wf
  clear hs wf hwf hm
  go_enter Try.func6, Try.ntmps6
  try simp only [List.append_eq, List.cons_append, List.nil_append]
  go_wp2_with fail
  refine (new_any W).mono ?_
  rintro e w1 ⟨g0, rfl, hg0, a1, b1⟩
  have A1 := Lib.hid a1
  have B1 := Lib.hid b1
  have HG := Lib.hid hg0
  clear a1 b1 hg0
  go_upto_region 3 with (fail)
  obtain ⟨B, hB⟩ : ∃ B, B = w1.heap.size := ⟨_, rfl⟩
  obtain ⟨w2, hw2⟩ : ∃ w2, w2 = w1.alloc (.cells (Array.replicate 104 (.int .u8 0)) 51) := ⟨_, rfl⟩
  have J2 : Hid (Jn W B g0 (fun _ => 0) w2) := Lib.hid (by
    have h1 := A1.out.lt
    have h2 := B1.out.size
    rw [hw2, hB]
    exact ⟨A1.out.kept (belowA (Below.refl _ _) _), ⟨Array.replicate 104 (.int .u8 0), Blk.new _ _ _, by simp, fun j hj => by simp [hj]⟩, by omega, HG.out, h2, belowA B1.out _, zero_inv⟩)
  rw [← hB]
  have hw2' : w1.alloc (.cells Try.zeroCells51 51) = w2 := by rw [hw2]; rfl
  change Code.wp _ _ _ _ (w1.alloc (.cells Try.zeroCells51 51))
  rw [hw2']
  clear hB hw2 hw2' A1 B1 HG
  go_wp2_with fail
  go_loopw [5, 7, 26] (fun p l i wr => ∃ (k g : Nat) (s : Nat → Int) (lf : Int), k ≤ n ∧ i = .int .i64 k ∧ p = at_ g 0 ∧ l = .int .i64 lf ∧ (0 ≤ lf ∧ lf ≤ 4000) ∧ Jn W B g s wr) (fun _ _ i _ => n - (intOf i).toNat)
  case atStart => exact ⟨0, g0, fun _ => 0, 4000, by omega, rfl, rfl, rfl, ⟨by omega, by omega⟩, J2.out⟩
  case round =>
    obtain ⟨k, g, s, lf, hk, rfl, rfl, rfl, hlf, jn⟩ := hrel
    have JN := Lib.hid jn
    have LF := Lib.hid hlf
    clear jn J2 hlf
    by_cases hlt : k < n
    · have zk : (k : Int) < n := by omega
      obtain ⟨b1, of1, rfl, hcells⟩ := HS.out.resolve_left (by omega)
      obtain ⟨h0, h1, h2, h3⟩ := hcells k hlt
      have y0 := keepC JN.out.bel h0
      have y1 := keepC JN.out.bel h1
      have y2 := keepC JN.out.bel h2
      have y3 := keepC JN.out.bel h3
      have wfk := WF.out k hlt
      obtain ⟨x0, hx0⟩ : ∃ x, f0 k = x := ⟨_, rfl⟩
      obtain ⟨x1, hx1⟩ : ∃ x, f1 k = x := ⟨_, rfl⟩
      obtain ⟨x2, hx2⟩ : ∃ x, f2 k = x := ⟨_, rfl⟩
      obtain ⟨x3, hx3⟩ : ∃ x, f3 k = x := ⟨_, rfl⟩
      rw [hx0] at y0 wfk
      rw [hx1] at y1 wfk
      rw [hx2] at y2 wfk
      rw [hx3] at y3 wfk
      have XB := Lib.hid wfk
      clear hx0 hx1 hx2 hx3 wfk h0 h1 h2 h3 hcells HS
      go_upto_region 7 with (fail)
      obtain ⟨w6, hw6⟩ : ∃ w6, w6 = wr.alloc (.cells (evA x0 x1 x2 x3) 53) := ⟨_, rfl⟩
      obtain ⟨e, he⟩ : ∃ e, e = wr.heap.size := ⟨_, rfl⟩
      have L6 : Hid (Jo W B g e (evA x0 x1 x2 x3) s s w6) := Lib.hid (by rw [hw6, he]; exact JN.out.open_ _ (belowA (Below.refl _ _) _) (Blk.new _ _ _))
      have IV := Lib.hid JN.out.inv
      rw [← hw6, ← he]
      clear hw6 he JN y0 y1 y2 y3
      have e0 := L6.out.o.cell 0
      go_upto_block 2 with fail
      go_cut [5, 7] from 31 to 130 (fun p l wx => ∃ (g' : Nat) (s' : Nat → Int) (lf' : Int), p = at_ g' 0 ∧ l = .int .i64 lf' ∧ (0 ≤ lf' ∧ lf' ≤ 4000) ∧ Inv s' ∧ Jo W B g' e (evA x0 x1 x2 x3) s' s' wx)
      case first =>
        have d1 := L6.out.o.cell 1
        have d2 := L6.out.o.cell 2
        have d3 := L6.out.o.cell 3
        by_cases q0 : x0 = 0
        · have t0 : (x0 == 0) = true := by rw [beq_iff_eq]; exact q0
          have CA : Hid (∀ (d : Nat → Int) (w' : World), Jo W B g e (evA x0 x1 x2 x3) s d w' → Calls Try.prog 10 #[at_ g 0, .int .u16 x1, .int .u8 x2] w' (fun e' w'' => e' = .returned (.bool (wrF x1 x2 s).1) ∧ Jo W B g e (evA x0 x1 x2 x3) (wrF x1 x2 s).2 d w'')) := Lib.hid (fun d w' h =>
            (write_any h.po x1 x2 XB.out.2.1.1 XB.out.2.1.2).mono (fun e' w'' ⟨h1, h2, h3⟩ => ⟨h1, h.prog h2 h3⟩))
          have DA : Hid (∀ (s1 : Nat → Int) (w' : World), Jo W B g e (evA x0 x1 x2 x3) s1 s w' → Calls Try.prog 20 #[at_ B 0, .int .u16 x1, .int .u8 x2] w' (fun e' w'' => e' = .returned (.bool (wrF x1 x2 s).1) ∧ Jo W B g e (evA x0 x1 x2 x3) s1 (wrF x1 x2 s).2 w'')) := Lib.hid (fun s1 w' h =>
            (dwrite_any h.dp IV.out.r x1 x2 XB.out.2.1.1 XB.out.2.1.2 XB.out.2.2.1.1 XB.out.2.2.1.2).mono (fun e' w'' ⟨h1, h2, h3⟩ => ⟨h1, h.doc h2 h3⟩))
          have G2 := Lib.hid (wrF_inv IV.out x1 x2 XB.out.2.2.1.1 XB.out.2.2.1.2)
          obtain ⟨av, hav⟩ : ∃ v, (wrF x1 x2 s).1 = v := ⟨_, rfl⟩
          obtain ⟨s2, hs2⟩ : ∃ v, (wrF x1 x2 s).2 = v := ⟨_, rfl⟩
          rw [hav, hs2] at CA DA
          rw [hs2] at G2
          have LQ0 := Lib.hid L6.out.drew
          clear hav hs2 q0
          go_upto_region 19 with (fail)
          go_region_held3 (fun w' => w'.cell? ⟨e, 1, none⟩ = some (.int .u16 x1) ∧ w'.cell? ⟨e, 2, none⟩ = some (.int .u8 x2))
            (first
              | with_reducible exact ⟨LQ0.out.o.cell 1, LQ0.out.o.cell 2⟩
              | with_reducible exact ⟨LQe.out.o.cell 1, LQe.out.o.cell 2⟩
              | with_reducible exact ⟨LQc.out.o.cell 1, LQc.out.o.cell 2⟩
              | exact ⟨LQ0.out.o.cell 1, LQ0.out.o.cell 2⟩
              | exact ⟨LQe.out.o.cell 1, LQe.out.o.cell 2⟩
              | exact ⟨LQc.out.o.cell 1, LQc.out.o.cell 2⟩)
            (first
              | (go_at_call 10; refine (CA.out _ _ LQ0.out).mono ?_; rintro e' w' ⟨rfl, hz⟩; have LQc := Lib.hid hz; clear hz)
              | (go_at_call 20; refine (DA.out _ _ LQc.out).mono ?_; rintro e' w' ⟨rfl, hz⟩; have LQe := Lib.hid hz; clear hz))
          all_goals
            go_split_ands
            go_wp2_with fail
            go_meet
            case rel => exact ⟨g, s2, lf, rfl, rfl, LF.out, G2.out, LQe.out⟩
        · have t0 : (x0 == 0) = false := by rw [beq_eq_false_iff_ne]; exact q0
          by_cases q1 : x0 = 1
          · have t1 : (x0 == 1) = true := by rw [beq_iff_eq]; exact q1
            obtain ⟨ra, rb, hr⟩ := rdV_two s x1
            have DA : Hid (∀ (w' : World), Jo W B g e (evA x0 x1 x2 x3) s s w' → Calls Try.prog 21 #[at_ B 0, .int .u16 x1] w' (fun e' w'' => e' = .returned (.tuple #[.int .u8 ra, .bool rb]) ∧ Jo W B g e (evA x0 x1 x2 x3) s s w'')) := Lib.hid (fun w' h =>
              (dreadp_any h.dp x1 XB.out.2.1.1 XB.out.2.1.2).mono (fun e' w'' ⟨h1, h2⟩ => ⟨by rw [← hr]; exact h1, h.kept h2⟩))
            have CA : Hid (∀ (w' : World), Jo W B g e (evA x0 x1 x2 x3) s s w' → Calls Try.prog 15 #[at_ g 0, .int .u16 x1] w' (fun e' w'' => e' = .returned (.tuple #[.int .u8 ra, .bool rb]) ∧ Jo W B g e (evA x0 x1 x2 x3) s s w'')) := Lib.hid (fun w' h =>
              (readp_any h.po x1 XB.out.2.1.1 XB.out.2.1.2).mono (fun e' w'' ⟨h1, h2⟩ => ⟨by rw [← hr]; exact h1, h.kept h2⟩))
            clear hr q0 q1
            go_wp2_with fail
            refine (DA.out _ L6.out).mono ?_
            rintro e' w7 ⟨rfl, hz⟩
            have L7 := Lib.hid hz
            have k1 := hz.o.cell 1
            have k2 := hz.o.cell 2
            clear hz d1 d2 d3 e0 L6 DA
            go_wp2_with fail
            refine (CA.out _ L7.out).mono ?_
            rintro e' w8 ⟨rfl, hz⟩
            have L8 := Lib.hid hz
            clear hz k1 k2 L7 CA
            go_wp2_with fail
            go_meet
            case rel => exact ⟨g, s, lf, rfl, rfl, LF.out, IV.out, L8.out⟩
          · have t1 : (x0 == 1) = false := by rw [beq_eq_false_iff_ne]; exact q1
            by_cases q2 : x0 = 2
            · have t2 : (x0 == 2) = true := by rw [beq_iff_eq]; exact q2
              obtain ⟨r, HB⟩ := frame_both IV.out
              have CA : Hid (Calls Try.prog 18 #[at_ g 0] w6 (fun e' w'' => e' = .returned (.tuple #[]) ∧ Jo W B g e (evA x0 x1 x2 x3) r s w'')) := Lib.hid ((HB.prog _ _ L6.out.po).mono (fun e' w'' ⟨h1, h2, h3⟩ => ⟨h1, L6.out.prog h2 h3⟩))
              have DA : Hid (∀ (w' : World), Jo W B g e (evA x0 x1 x2 x3) r s w' → Calls Try.prog 22 #[at_ B 0] w' (fun e' w'' => e' = .returned (.tuple #[]) ∧ Jo W B g e (evA x0 x1 x2 x3) r r w'')) := Lib.hid (fun w' h => (HB.doc _ _ h.dp).mono (fun e' w'' ⟨h1, h2, h3⟩ => ⟨h1, h.doc h2 h3⟩))
              have IR := Lib.hid HB.inv
              clear HB q0 q1 q2
              go_wp2_with fail
              refine CA.out.mono ?_
              rintro e' w7 ⟨rfl, hz⟩
              have L7 := Lib.hid hz
              clear hz d1 d2 d3 e0 L6 CA
              go_wp2_with fail
              refine (DA.out _ L7.out).mono ?_
              rintro e' w8 ⟨rfl, hz⟩
              have L8 := Lib.hid hz
              clear hz L7 DA
              go_wp2_with fail
              go_meet
              case rel => exact ⟨g, r, lf, rfl, rfl, LF.out, IR.out, L8.out⟩
            · have t2 : (x0 == 2) = false := by rw [beq_eq_false_iff_ne]; exact q2
              by_cases q3 : x0 = 3
              · have t3 : (x0 == 3) = true := by rw [beq_iff_eq]; exact q3
                obtain ⟨r, HB⟩ := line_both IV.out
                have CA : Hid (Calls Try.prog 19 #[at_ g 0] w6 (fun e' w'' => e' = .returned (.tuple #[]) ∧ Jo W B g e (evA x0 x1 x2 x3) r s w'')) := Lib.hid ((HB.prog _ _ L6.out.po).mono (fun e' w'' ⟨h1, h2, h3⟩ => ⟨h1, L6.out.prog h2 h3⟩))
                have DA : Hid (∀ (w' : World), Jo W B g e (evA x0 x1 x2 x3) r s w' → Calls Try.prog 23 #[at_ B 0] w' (fun e' w'' => e' = .returned (.tuple #[]) ∧ Jo W B g e (evA x0 x1 x2 x3) r r w'')) := Lib.hid (fun w' h => (HB.doc _ _ h.dp).mono (fun e' w'' ⟨h1, h2, h3⟩ => ⟨h1, h.doc h2 h3⟩))
                have IR := Lib.hid HB.inv
                clear HB q0 q1 q2 q3
                go_wp2_with fail
                refine CA.out.mono ?_
                rintro e' w7 ⟨rfl, hz⟩
                have L7 := Lib.hid hz
                clear hz d1 d2 d3 e0 L6 CA
                go_wp2_with fail
                refine (DA.out _ L7.out).mono ?_
                rintro e' w8 ⟨rfl, hz⟩
                have L8 := Lib.hid hz
                clear hz L7 DA
                go_wp2_with fail
                go_meet
                case rel => exact ⟨g, r, lf, rfl, rfl, LF.out, IR.out, L8.out⟩
              · have t3 : (x0 == 3) = false := by rw [beq_eq_false_iff_ne]; exact q3
                by_cases q4 : x0 = 4
                · have t4 : (x0 == 4) = true := by rw [beq_iff_eq]; exact q4
                  have SV := Lib.hid (savedDa_any L6.out.po IV.out.r)
                  clear q0 q1 q2 q3 q4
                  go_wp2_with fail
                  refine SV.out.mono ?_
                  rintro e' w7 ⟨vf, rfl, hf, b7⟩
                  have L7 := Lib.hid (L6.out.kept b7)
                  have LD := Lib.hid (loadedDa_any hf IV.out)
                  clear hf b7 SV d1 d2 d3 e0 L6
                  go_wp2_with fail
                  refine LD.out.mono ?_
                  rintro e' w8 ⟨q, rfl, hq, a8, b8⟩
                  have L8 : Hid (Jo W B q e (evA x0 x1 x2 x3) s s w8) := Lib.hid (L7.out.next hq a8 b8)
                  clear hq a8 b8 L7 LD
                  go_wp2_with fail
                  go_meet
                  case rel => exact ⟨q, s, lf, rfl, rfl, LF.out, IV.out, L8.out⟩
                · have t4 : (x0 == 4) = false := by rw [beq_eq_false_iff_ne]; exact q4
                  clear q0 q1 q2 q3 q4
                  go_wp2_with fail
                  go_loopw [7, 16] (fun l i wq => ∃ (j : Nat) (s' : Nat → Int) (lf' : Int), i = .int .i64 j ∧ l = .int .i64 lf' ∧ (0 ≤ lf' ∧ (j : Int) + lf' ≤ 4000) ∧ Inv s' ∧ Jo W B g e (evA x0 x1 x2 x3) s' s' wq) (fun l _ _ => (intOf l).toNat)
                  case atStart => exact ⟨0, s, lf, rfl, rfl, ⟨LF.out.1, by have := LF.out.2; omega⟩, IV.out, L6.out⟩
                  case round =>
                    obtain ⟨j, s1, l1, rfl, rfl, hl, hiv, jo⟩ := hrel
                    have LJ := Lib.hid jo
                    have IJ := Lib.hid hiv
                    have k3 := jo.o.cell 3
                    have j0 : (0 : Int) ≤ j := by omega
                    obtain ⟨l0, l2⟩ := hl
                    clear jo hiv d1 d2 d3 e0 L6 IV
                    by_cases zj : (j : Int) < x3
                    · by_cases zl : 0 < l1
                      · have wl : IntKind.i64.wrap (l1 - 1) = l1 - 1 := by rw [IntKind.wrap_i64]; omega
                        have wj : IntKind.i64.wrap ((j : Int) + 1) = (j : Int) + 1 := by rw [IntKind.wrap_i64]; omega
                        obtain ⟨⟨⟨tk, ta, tb⟩, is⟩, hq⟩ : ∃ q, nxG s1 = q := ⟨_, rfl⟩
                        have hv : nxGV s1 = .tuple #[trV tk ta tb, .bool is] := by unfold nxGV; rw [hq]
                        have nr := nx_rng IJ.out.r
                        rw [hq] at nr
                        have DN : Hid (∀ w', Ra w' B s1 → Calls Try.prog 26 #[at_ B 0] w' (Says w' (.tuple #[trV tk ta tb, .bool is]))) := Lib.hid (fun w' K' => by rw [← hv]; exact dnext_gen K' IJ.out)
                        have PN : Hid (∀ w', Da w' g s1 → Calls Try.prog 11 #[at_ g 0] w' (Says w' (.tuple #[trV tk ta tb, .bool is]))) := Lib.hid (fun w' A' => by rw [← hv]; exact next_gen A' IJ.out)
                        obtain ⟨y, hy, by_⟩ := BY.out ta nr.1 nr.2
                        obtain ⟨r, HB⟩ := done_both IJ.out y hy.1 hy.2
                        have CA := Lib.hid HB.prog
                        have DA := Lib.hid HB.doc
                        have IR := Lib.hid HB.inv
                        have BA := Lib.hid by_
                        clear HB by_ hy hq hv nr
                        go_wp2_with fail
                        refine (DN.out _ LJ.out.dp).mono ?_
                        rintro e' w7 ⟨rfl, hz⟩
                        have L7 := Lib.hid (LJ.out.kept hz)
                        clear hz k3 LJ DN
                        go_upto_region 13 with (fail)
                        obtain ⟨w8, hw8⟩ : ∃ w8, w8 = w7.alloc (.cells #[.int .u8 tk, .int .u32 ta, .int .u8 tb] 30) := ⟨_, rfl⟩
                        obtain ⟨T1, hT1⟩ : ∃ T, T = w7.heap.size := ⟨_, rfl⟩
                        have X8 : Hid (Blk w8 T1 30 #[.int .u8 tk, .int .u32 ta, .int .u8 tb]) := Lib.hid (by rw [hw8, hT1]; exact Blk.new _ _ _)
                        have L8 : Hid (Jo W B g e (evA x0 x1 x2 x3) s1 s1 w8) := Lib.hid (by rw [hw8]; exact L7.out.kept (belowA (Below.refl _ _) _))
                        have nB : Hid (T1 ≠ B ∧ T1 ≠ g) := Lib.hid (by rw [hT1]; have := L7.out.dp.lt; have := L7.out.po.lt; omega)
                        rw [← hT1, ← hw8]
                        clear hT1 hw8 L7
                        go_wp2_with fail
                        refine (PN.out _ L8.out.po).mono ?_
                        rintro e' w9 ⟨rfl, hz⟩
                        have L9 := Lib.hid (L8.out.kept hz)
                        have X9 := Lib.hid (X8.out.kept hz)
                        clear hz L8 X8 PN
                        go_upto_region 14 with (fail)
                        obtain ⟨w10, hw10⟩ : ∃ w', w' = w9.alloc (.cells #[.int .u8 tk, .int .u32 ta, .int .u8 tb] 30) := ⟨_, rfl⟩
                        obtain ⟨T2, hT2⟩ : ∃ T, T = w9.heap.size := ⟨_, rfl⟩
                        have Y10 : Hid (Blk w10 T2 30 #[.int .u8 tk, .int .u32 ta, .int .u8 tb]) := Lib.hid (by rw [hw10, hT2]; exact Blk.new _ _ _)
                        have X10 : Hid (Blk w10 T1 30 #[.int .u8 tk, .int .u32 ta, .int .u8 tb]) := Lib.hid (by rw [hw10]; exact X9.out.kept (belowA (Below.refl _ _) _))
                        have L10 : Hid (Jo W B g e (evA x0 x1 x2 x3) s1 s1 w10) := Lib.hid (by rw [hw10]; exact L9.out.kept (belowA (Below.refl _ _) _))
                        rw [← hT2, ← hw10]
                        clear hT2 hw10 L9 X9
                        have u0 := X10.out.cell 0
                        have u1 := X10.out.cell 1
                        have u2 := X10.out.cell 2
                        have v0 := Y10.out.cell 0
                        have v1 := Y10.out.cell 1
                        have v2 := Y10.out.cell 2
                        go_wp2_with fail
                        refine (BA.out _ L10.out.bel).mono ?_
                        rintro e' w11 ⟨rfl, hz⟩
                        have L11 := Lib.hid (L10.out.kept hz)
                        have X11 := Lib.hid (X10.out.kept hz)
                        clear hz L10 X10 Y10 u0 u1 u2 v0 v1 v2
                        have CC := Lib.hid (CA.out _ _ L11.out.po)
                        go_wp2_with fail
                        refine CC.out.mono ?_
                        rintro e' w12 ⟨rfl, h2, h3⟩
                        have L12 := Lib.hid (L11.out.prog h2 h3)
                        have X12 := Lib.hid (h3.blk X11.out nB.out.2)
                        clear h2 h3 L11 X11 CC CA
                        have u1 := X12.out.cell 1
                        go_wp2_with fail
                        refine (BA.out _ L12.out.bel).mono ?_
                        rintro e' w13 ⟨rfl, hz⟩
                        have L13 := Lib.hid (L12.out.kept hz)
                        clear hz L12 X12 u1
                        have CC := Lib.hid (DA.out _ _ L13.out.dp)
                        go_wp2_with fail
                        refine CC.out.mono ?_
                        rintro e' w14 ⟨rfl, h2, h3⟩
                        have L14 := Lib.hid (L13.out.doc h2 h3)
                        clear h2 h3 L13 CC DA
                        go_wp2_with fail
                        go_roundw
                        case rel => exact ⟨j + 1, r, l1 - 1, by go_num, rfl, ⟨by omega, by omega⟩, IR.out, L14.out⟩
                        case measure => simp [intOf]; omega
                      · have zl2 : l1 ≤ 0 := by omega
                        go_wp2_with fail
                        go_meet
                        case rel => exact ⟨g, s1, l1, rfl, rfl, ⟨l0, by omega⟩, IJ.out, LJ.out⟩
                    · have zj2 : x3 ≤ (j : Int) := by omega
                      go_wp2_with fail
                      go_meet
                      case rel => exact ⟨g, s1, l1, rfl, rfl, ⟨l0, by omega⟩, IJ.out, LJ.out⟩
      obtain ⟨g1, s1, lf1, rfl, rfl, hl, hiv, jo⟩ := hcut
      have LZ : Hid (Jo W B g1 e (evA x0 x1 x2 x3) s1 s1 wc) := Lib.hid jo
      have I1 := Lib.hid hiv
      have LF1 := Lib.hid hl
      have SM := Lib.hid (same_any jo.po jo.dp hiv)
      clear jo hiv hl L6 IV LF XB e0
      go_wp2_with fail
      refine SM.out.mono ?_
      rintro e' w9 ⟨rfl, hb⟩
      have J9 := Lib.hid (LZ.out.kept hb)
      clear hb LZ SM
      go_wp2_with fail
      go_roundw
      case rel => exact ⟨k + 1, g1, s1, lf1, by omega, by go_num, rfl, rfl, LF1.out, J9.out.shut I1.out⟩
      case measure => simp [intOf]; omega
    · have hkn : k = n := by omega
      have BL := Lib.hid JN.out.bel
      clear JN HS WF
      go_wp2_with fail
      refine (AW.out _).mono ?_
      rintro e wz ⟨rfl, hz⟩
      have BZ := Lib.hid (BL.out.trans (hz.mono BL.out.size))
      clear hz
      go_wp2_with fail
      go_ret
      exact ⟨rfl, BZ.out⟩
open Go.WideShapes Go.ChangeAt in
theorem walk (H : Type) (enc : TypeId × Value → H) (W : World) (base : Nat) (v0 v1 : Value) {d0 d1 : DataW H} {p0 p1 : List MemPlace}
    (k0 : Value.okWide Try.prog W .any base 40 v0) (h0 : DataW.Trod enc Try.prog W 0 (fun _ => true) true 40 v0 d0 p0)
    (k1 : Value.okWide Try.prog W .any base 46 v1) (h1 : DataW.Trod enc Try.prog W 0 (fun _ => true) true 46 v1 d1 p1) :
    Calls Try.prog 6 #[v0, v1] W fun e w' => e = .returned (.bool true) ∧ Below W.heap.size W w' := by
  obtain ⟨nb, hb, SB, hnb, hwb⟩ := openRow0 Try.underlying40 Try.underlying5 (by kernel_rfl) k0 h0
  obtain ⟨m, f0, f1, f2, f3, S, hm, hw⟩ := openFour Try.underlying46 Try.underlying53 (by kernel_rfl) rfl rfl rfl rfl (by kernel_rfl) (by kernel_rfl) (by kernel_rfl) (by kernel_rfl) Try.underlying3 Try.underlying22 Try.underlying5 Try.underlying3 k1 h1
  exact law W v0 v1 m nb hb f0 f1 f2 f3 SB hnb (fun j hj => wf_u8 (hwb j hj)) S hm (fun j hj => ⟨wf_i64 (hw j hj).1, wf_u16 (hw j hj).2.1, wf_u8 (hw j hj).2.2.1, wf_i64 (hw j hj).2.2.2⟩)
end Go.Proofs.Ytkeikkkcmackeaa.dmaScripts
