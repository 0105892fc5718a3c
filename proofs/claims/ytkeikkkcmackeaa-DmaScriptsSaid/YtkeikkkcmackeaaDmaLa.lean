/- dma, the program's begin, at every state. -/
import Derived.Test.YtkeikkkcmackeaaDmaKcs
import Derived.ScopeJumps
import Derived.WalkMore
namespace Go.Proofs.Ytkeikkkcmackeaa
open Go.RowKit
set_option linter.unusedVariables false
set_option linter.unusedSimpArgs false
set_option maxRecDepth 100000
theorem jump_normal (l : Nat) (J : Act → World → Prop) (Q : Exit → Act → World → Prop) (a : Act) (w : World) : Exit.jump l J Q .normal a w = Q .normal a w := rfl
theorem jump_ret (l : Nat) (J : Act → World → Prop) (Q : Exit → Act → World → Prop) (a : Act) (w : World) : Exit.jump l J Q .ret a w = Q .ret a w := rfl
def muB (g : Nat) (w : World) : Nat := match w.cell? ⟨g, 102, none⟩ with | some (.int _ x) => x.toNat | _ => 0
section
variable {w : World} {g : Nat} {f : Nat → Int}
set_option maxHeartbeats 16000000 in
theorem begin_at {wr : World} {f' : Nat → Int} (A' : Da wr g f') (R' : Rng f') {r : Nat → Int} (H' : Beg r f') (U' : Upd w g wr) :
    Calls Try.prog 43 #[.pointer (some ⟨g, 0, none⟩)] wr (Wrote w g r (.tuple #[])) := by
  go_enter Try.func43, Try.ntmps43
  refine wp_scope_jumps 0 (fun a wr => ∃ u1 u2 u3 u4 u5 u6 u7 u8 u9 u10 u11 u12 u13 u14 u15 u16 u17 u18 u19 u20 u21 u22 u23 u24 u25 u26 u27 u28 u29 u30 u31 u32 u33 u34 u35 u36 u37 u38 u39 u40 u41 u42 u43 u44 u45 u46 u47 u48 u49 u50 f', a = ⟨#[.pointer (some ⟨g, 0, none⟩), u1, u2, u3, u4, u5, u6, u7, u8, u9, u10, u11, u12, u13, u14, u15, u16, u17, u18, u19, u20, u21, u22, u23, u24, u25, u26, u27, u28, u29, u30, u31, u32, u33, u34, u35, u36, u37, u38, u39, u40, u41, u42, u43, u44, u45, u46, u47, u48, u49, u50], []⟩ ∧ Da wr g f' ∧ Rng f' ∧ Beg r f' ∧ Upd w g wr) (fun _ wr => muB g wr) rfl ?first ?pass
  case first =>
    go_wp2_with fail
    go_step3
    have R1 : Rng (put1 f' 103 0) := R'.put1 _ (by omega) (by omega)
    have f103 := A'.frozen 103
    have c103 := A'.cell (j := 103) (by omega)
    have a1 := A'.put1 (i := 103) (by omega) 0
    have c102 := a1.cell (j := 102) (by omega)
    have c101 := a1.cell (j := 101) (by omega)
    have e2 : put1 f' 103 0 102 = f' 102 := put1_ne (by decide)
    have e1 : put1 f' 103 0 101 = f' 101 := put1_ne (by decide)
    have e0 : put1 f' 103 0 100 = f' 100 := put1_ne (by decide)
    have e9 : put1 f' 103 0 99 = f' 99 := put1_ne (by decide)
    rw [e2] at c102
    rw [e1] at c101
    have M0 : Hid (∀ x, wr.cell? ⟨g, 102, none⟩ = some x → x = .int .u8 (f' 102)) := Lib.hid (fun x hx => by
      have := A'.cell (j := 102) (by omega)
      rw [this] at hx; exact (Option.some.inj hx).symm)
    have c102o := A'.cell (j := 102) (by omega)
    have A1 := Lib.hid a1
    have U1 := Lib.hid (U'.set 103 (.int .u8 0))
    clear a1 e1 e2 U'
    cases H' with
    | none h0 hr =>
      have HRr := Lib.hid hr
      have LN := Lib.hid (fun (w' : World) (A' : Da w' g (put1 f' 103 0)) => least_none A')
      rw [h0] at c102
      clear hr h0 R' A' c102o
      go_wp2_with fail
      refine (LN.out _ A1.out).mono ?_
      rintro e w2 ⟨rfl, hb2⟩
      have a2 := A1.out.kept hb2
      have c101 := a2.cell (j := 101) (by omega)
      have f101 := a2.frozen 101
      have A2 := Lib.hid a2
      have U2 := Lib.hid (U1.out.trans (Upd.ofBelow hb2 g))
      clear a2 hb2 c102 A1 LN c103 f103
      go_wp2_with fail
      (first | rw [jump_normal] | rw [jump_ret] | skip)
      go_wp2_with fail
      go_end0
      rw [HRr.out]
      exact ⟨rfl, A2.out.put1 (by omega) _, U2.out.set _ _⟩
    | frame h0 h1 hr =>
      obtain ⟨hc, hf⟩ := low_of R' h0
      obtain ⟨c, hcc⟩ : ∃ c, lowC (f' 102) = c := ⟨_, rfl⟩
      rw [hcc] at hc hf hr
      obtain ⟨b0, b1⟩ := bitOf_rng c hc
      have hF : r = put1 (put2 (put1 (put1 f' 103 0) 99 (pt (put1 f' 103 0 99) (bitOf c) false)) (c * 12 + 8) (wordOf (put1 (put1 f' 103 0) 99 (pt (put1 f' 103 0 99) (bitOf c) false)) (c * 12 + 2))) 103 8 := by rw [hr]; unfold frmF; rw [e9]
      rw [h1] at c101
      obtain ⟨x2, hx2⟩ : ∃ x, f' 102 = x := ⟨_, rfl⟩
      rw [hx2] at c102 hf
      obtain ⟨f1, hf1⟩ : ∃ f1, put1 f' 103 0 = f1 := ⟨_, rfl⟩
      rw [hf1] at A1 R1 hF
      have LN := Lib.hid (fun (w' : World) (A' : Da w' g f1) => least_any A' c hc x2 hf)
      have PU := Lib.hid (fun (w' : World) (A' : Da w' g f1) => putB_any A' 99 (by omega) (bitOf c) false)
      have r99 := R1 99
      have pr := pt_rng' c hc false r99.1 r99.2
      have R2 : Rng (put1 f1 99 (pt (f1 99) (bitOf c) false)) := R1.put1 _ pr.1 pr.2
      obtain ⟨f2, hf2⟩ : ∃ f2, put1 f1 99 (pt (f1 99) (bitOf c) false) = f2 := ⟨_, rfl⟩
      rw [hf2] at PU R2 hF
      have WD := Lib.hid (fun (w' : World) (A' : Da w' g f2) => word_any A' R2 (o := c * 12) 2 (by omega) (by omega))
      obtain ⟨z0, z1⟩ := wordOf_rng R2 (c * 12 + 2)
      have SE := Lib.hid (fun (w' : World) (A' : Da w' g f2) => set_any A' (o := c * 12) 8 (by omega) (by omega) (wordOf f2 (c * 12 + 2)) z0 z1)
      obtain ⟨z, hz⟩ : ∃ z, wordOf f2 (c * 12 + 2) = z := ⟨_, rfl⟩
      rw [hz] at WD SE z0 z1 hF
      have HF := Lib.hid hF
      clear R' A' R1 R2 hf1 hf2 hz hF hr r99 pr hcc hx2 h0 h1 e0 e9 c102o M0
      go_wp2_with fail
      refine (LN.out _ A1.out).mono ?_
      rintro e w2 ⟨rfl, hb2⟩
      have a2 := A1.out.kept hb2
      have c101 := keepC hb2 c101
      have A2 := Lib.hid a2
      have U2 := Lib.hid (U1.out.trans (Upd.ofBelow hb2 g))
      clear a2 hb2 c102 A1 LN c103 f103
      go_wp2_with fail
      refine (PU.out _ A2.out).mono ?_
      rintro e w3 ⟨rfl, a3, u3⟩
      have A3 := Lib.hid a3
      have U3 := Lib.hid (U2.out.trans u3)
      clear a3 u3 A2 U2 PU c101
      go_wp2_with fail
      refine (WD.out _ A3.out).mono ?_
      rintro e w4 ⟨rfl, hb4⟩
      have A4 := Lib.hid (A3.out.kept hb4)
      have U4 := Lib.hid (U3.out.trans (Upd.ofBelow hb4 g))
      clear hb4 A3 U3 WD
      go_wp2_with fail
      refine (SE.out _ A4.out).mono ?_
      rintro e w5 ⟨rfl, a5, u5⟩
      have f103 := a5.frozen 103
      have c103 := a5.cell (j := 103) (by omega)
      have A5 := Lib.hid a5
      have U5 := Lib.hid (U4.out.trans u5)
      clear a5 u5 A4 U4 SE
      go_wp2_with fail
      (first | rw [jump_normal] | rw [jump_ret] | skip)
      go_wp2_with fail
      go_end0
      rw [HF.out]
      exact ⟨rfl, A5.out.put1 (by omega) _, U5.out.set _ _⟩
    | does h0 h1 h2 hr =>
      obtain ⟨hc, hf⟩ := low_of R' h0
      obtain ⟨c, hcc⟩ : ∃ c, lowC (f' 102) = c := ⟨_, rfl⟩
      rw [hcc] at hc hf h2
      obtain ⟨b0, b1⟩ := bitOf_rng c hc
      have h100 := A1.out.cell (j := 100) (by omega)
      rw [e0] at h100
      have t1 : (f' 101 == 1) = false := by simpa using h1
      have r100 := R' 100
      have dz : (bits .and .u8 (f' 100) (bitOf c) == 0) = false := by
        have := and_bit (f' 100) r100.1 r100.2 c hc
        rw [decide_eq_true h2] at this
        simpa using this
      obtain ⟨x2, hx2⟩ : ∃ x, f' 102 = x := ⟨_, rfl⟩
      rw [hx2] at c102 hf
      obtain ⟨x1, hx1⟩ : ∃ x, f' 101 = x := ⟨_, rfl⟩
      rw [hx1] at c101 t1
      obtain ⟨x0, hx0⟩ : ∃ x, f' 100 = x := ⟨_, rfl⟩
      rw [hx0] at h100 dz
      obtain ⟨f1, hf1⟩ : ∃ f1, put1 f' 103 0 = f1 := ⟨_, rfl⟩
      rw [hf1] at A1 R1 hr
      have LN := Lib.hid (fun (w' : World) (A' : Da w' g f1) => least_any A' c hc x2 hf)
      have HF := Lib.hid hr
      clear R' A' R1 hf1 hr hcc hx2 hx1 hx0 h0 h1 h2 e0 e9 c102o M0 r100
      go_wp2_with fail
      refine (LN.out _ A1.out).mono ?_
      rintro e w2 ⟨rfl, hb2⟩
      have a2 := A1.out.kept hb2
      have c101 := keepC hb2 c101
      have c100 := keepC hb2 h100
      have A2 := Lib.hid a2
      have U2 := Lib.hid (U1.out.trans (Upd.ofBelow hb2 g))
      clear a2 hb2 c102 A1 LN c103 f103 h100
      go_wp2_with fail
      (first | rw [jump_normal] | rw [jump_ret] | skip)
      go_wp2_with fail
      go_end0
      rw [HF.out]
      exact ⟨rfl, A2.out, U2.out⟩
    | stop h0 h1 h2 hq hr =>
      obtain ⟨hc, hf⟩ := low_of R' h0
      obtain ⟨c, hcc⟩ : ∃ c, lowC (f' 102) = c := ⟨_, rfl⟩
      rw [hcc] at hc hf h2 hq hr
      obtain ⟨b0, b1⟩ := bitOf_rng c hc
      have h100 := A1.out.cell (j := 100) (by omega)
      rw [e0] at h100
      have t1 : (f' 101 == 1) = false := by simpa using h1
      have r100 := R' 100
      have dz : bits .and .u8 (f' 100) (bitOf c) = 0 := by
        have := and_bit (f' 100) r100.1 r100.2 c hc
        rw [decide_eq_false h2] at this
        simpa using this
      obtain ⟨x2, hx2⟩ : ∃ x, f' 102 = x := ⟨_, rfl⟩
      rw [hx2] at c102 hf
      obtain ⟨x1, hx1⟩ : ∃ x, f' 101 = x := ⟨_, rfl⟩
      rw [hx1] at c101 t1
      obtain ⟨x0, hx0⟩ : ∃ x, f' 100 = x := ⟨_, rfl⟩
      rw [hx0] at h100 dz
      obtain ⟨f1, hf1⟩ : ∃ f1, put1 f' 103 0 = f1 := ⟨_, rfl⟩
      rw [hf1] at A1 R1 hr hq
      have LN := Lib.hid (fun (w' : World) (A' : Da w' g f1) => least_any A' c hc x2 hf)
      have CN := Lib.hid (fun (w' : World) (A' : Da w' g f1) => counted_any A' R1 c hc)
      rw [← hr, hq] at CN
      clear R' A' R1 hf1 hr hq hcc hx2 hx1 hx0 h0 h1 h2 e0 e9 c102o M0 r100
      go_wp2_with fail
      refine (LN.out _ A1.out).mono ?_
      rintro e w2 ⟨rfl, hb2⟩
      have a2 := A1.out.kept hb2
      have c101 := keepC hb2 c101
      have c100 := keepC hb2 h100
      have A2 := Lib.hid a2
      have U2 := Lib.hid (U1.out.trans (Upd.ofBelow hb2 g))
      clear a2 hb2 c102 A1 LN c103 f103 h100
      go_wp2_with fail
      refine (CN.out _ A2.out).mono ?_
      rintro e w3 ⟨rfl, a3, u3⟩
      have A3 := Lib.hid a3
      have U3 := Lib.hid (U2.out.trans u3)
      clear a3 u3 c100 c101 A2 U2 CN
      go_wp2_with fail
      (first | rw [jump_normal] | rw [jump_ret] | skip)
      go_wp2_with fail
      go_end0
      exact ⟨rfl, A3.out, U3.out⟩
    | again h0 h1 h2 hq hb =>
      obtain ⟨hc, hf⟩ := low_of R' h0
      have z := cnt102 _ hc hq
      obtain ⟨c, hcc⟩ : ∃ c, lowC (f' 102) = c := ⟨_, rfl⟩
      have r2 := R' 102
      have dr := low_drop (f' 102) (by omega) r2.2
      rw [hcc] at hc hf h2 hq hb z dr
      obtain ⟨b0, b1⟩ := bitOf_rng c hc
      have h100 := A1.out.cell (j := 100) (by omega)
      rw [e0] at h100
      have t1 : (f' 101 == 1) = false := by simpa using h1
      have r100 := R' 100
      have dz : bits .and .u8 (f' 100) (bitOf c) = 0 := by
        have := and_bit (f' 100) r100.1 r100.2 c hc
        rw [decide_eq_false h2] at this
        simpa using this
      have RC := cntF_rng R1 c hc
      obtain ⟨x2, hx2⟩ : ∃ x, f' 102 = x := ⟨_, rfl⟩
      rw [hx2] at c102 hf z dr c102o
      obtain ⟨x1, hx1⟩ : ∃ x, f' 101 = x := ⟨_, rfl⟩
      rw [hx1] at c101 t1
      obtain ⟨x0, hx0⟩ : ∃ x, f' 100 = x := ⟨_, rfl⟩
      rw [hx0] at h100 dz
      obtain ⟨f1, hf1⟩ : ∃ f1, put1 f' 103 0 = f1 := ⟨_, rfl⟩
      rw [hf1] at A1 R1 hq hb z RC
      have LN := Lib.hid (fun (w' : World) (A' : Da w' g f1) => least_any A' c hc x2 hf)
      have CN := Lib.hid (fun (w' : World) (A' : Da w' g f1) => counted_any A' R1 c hc)
      rw [hq] at CN
      obtain ⟨fn, hfn⟩ : ∃ q, (cntF c f1).2 = q := ⟨_, rfl⟩
      rw [hfn] at CN hb z RC
      have HB := Lib.hid hb
      have HRC := Lib.hid RC
      have r2n := RC 102
      rw [z] at r2n
      have HZ : Hid (fn 102 < x2 ∧ 0 ≤ fn 102) := Lib.hid (by rw [z]; exact ⟨dr, r2n.1⟩)
      have HC2 := Lib.hid c102o
      clear R' A' R1 hf1 hq hb hfn hcc hx2 hx1 hx0 h0 h1 h2 e0 e9 M0 r100 z dr RC r2 r2n c102o
      go_wp2_with fail
      refine (LN.out _ A1.out).mono ?_
      rintro e w2 ⟨rfl, hb2⟩
      have a2 := A1.out.kept hb2
      have c101 := keepC hb2 c101
      have c100 := keepC hb2 h100
      have A2 := Lib.hid a2
      have U2 := Lib.hid (U1.out.trans (Upd.ofBelow hb2 g))
      clear a2 hb2 c102 A1 LN c103 f103 h100
      go_wp2_with fail
      refine (CN.out _ A2.out).mono ?_
      rintro e w3 ⟨rfl, a3, u3⟩
      have A3 := Lib.hid a3
      have U3 := Lib.hid (U2.out.trans u3)
      clear a3 u3 c100 c101 A2 U2 CN
      go_wp2_with fail
      refine wp_goto ?_
      exact ⟨rfl, _, _, _, _, _, _, _, _, _, _, _, _, _, _, _, _, _, _, _, _, _, _, _, _, _, _, _, _, _, _, _, _, _, _, _, _, _, _, _, _, _, _, _, _, _, _, _, _, _, _, fn, rfl, A3.out, HRC.out, HB.out, U3.out⟩
  case pass =>
    rintro _ wr2 ⟨u1, u2, u3, u4, u5, u6, u7, u8, u9, u10, u11, u12, u13, u14, u15, u16, u17, u18, u19, u20, u21, u22, u23, u24, u25, u26, u27, u28, u29, u30, u31, u32, u33, u34, u35, u36, u37, u38, u39, u40, u41, u42, u43, u44, u45, u46, u47, u48, u49, u50, f2', rfl, A2', R2', H2', U2'⟩
    clear A' R' H' U'
    revert A2' R2' H2' U2'
    generalize wr2 = wr
    generalize f2' = f'
    intro A' R' H' U'
    have R1 : Rng (put1 f' 103 0) := R'.put1 _ (by omega) (by omega)
    have f103 := A'.frozen 103
    have c103 := A'.cell (j := 103) (by omega)
    have a1 := A'.put1 (i := 103) (by omega) 0
    have c102 := a1.cell (j := 102) (by omega)
    have c101 := a1.cell (j := 101) (by omega)
    have e2 : put1 f' 103 0 102 = f' 102 := put1_ne (by decide)
    have e1 : put1 f' 103 0 101 = f' 101 := put1_ne (by decide)
    have e0 : put1 f' 103 0 100 = f' 100 := put1_ne (by decide)
    have e9 : put1 f' 103 0 99 = f' 99 := put1_ne (by decide)
    rw [e2] at c102
    rw [e1] at c101
    have M0 : Hid (∀ x, wr.cell? ⟨g, 102, none⟩ = some x → x = .int .u8 (f' 102)) := Lib.hid (fun x hx => by
      have := A'.cell (j := 102) (by omega)
      rw [this] at hx; exact (Option.some.inj hx).symm)
    have c102o := A'.cell (j := 102) (by omega)
    have A1 := Lib.hid a1
    have U1 := Lib.hid (U'.set 103 (.int .u8 0))
    clear a1 e1 e2 U'
    cases H' with
    | none h0 hr =>
      have HRr := Lib.hid hr
      have LN := Lib.hid (fun (w' : World) (A' : Da w' g (put1 f' 103 0)) => least_none A')
      rw [h0] at c102
      clear hr h0 R' A' c102o
      go_wp2_with fail
      refine (LN.out _ A1.out).mono ?_
      rintro e w2 ⟨rfl, hb2⟩
      have a2 := A1.out.kept hb2
      have c101 := a2.cell (j := 101) (by omega)
      have f101 := a2.frozen 101
      have A2 := Lib.hid a2
      have U2 := Lib.hid (U1.out.trans (Upd.ofBelow hb2 g))
      clear a2 hb2 c102 A1 LN c103 f103
      go_wp2_with fail
      (first | rw [jump_normal] | rw [jump_ret] | skip)
      go_wp2_with fail
      go_end0
      rw [HRr.out]
      exact ⟨rfl, A2.out.put1 (by omega) _, U2.out.set _ _⟩
    | frame h0 h1 hr =>
      obtain ⟨hc, hf⟩ := low_of R' h0
      obtain ⟨c, hcc⟩ : ∃ c, lowC (f' 102) = c := ⟨_, rfl⟩
      rw [hcc] at hc hf hr
      obtain ⟨b0, b1⟩ := bitOf_rng c hc
      have hF : r = put1 (put2 (put1 (put1 f' 103 0) 99 (pt (put1 f' 103 0 99) (bitOf c) false)) (c * 12 + 8) (wordOf (put1 (put1 f' 103 0) 99 (pt (put1 f' 103 0 99) (bitOf c) false)) (c * 12 + 2))) 103 8 := by rw [hr]; unfold frmF; rw [e9]
      rw [h1] at c101
      obtain ⟨x2, hx2⟩ : ∃ x, f' 102 = x := ⟨_, rfl⟩
      rw [hx2] at c102 hf
      obtain ⟨f1, hf1⟩ : ∃ f1, put1 f' 103 0 = f1 := ⟨_, rfl⟩
      rw [hf1] at A1 R1 hF
      have LN := Lib.hid (fun (w' : World) (A' : Da w' g f1) => least_any A' c hc x2 hf)
      have PU := Lib.hid (fun (w' : World) (A' : Da w' g f1) => putB_any A' 99 (by omega) (bitOf c) false)
      have r99 := R1 99
      have pr := pt_rng' c hc false r99.1 r99.2
      have R2 : Rng (put1 f1 99 (pt (f1 99) (bitOf c) false)) := R1.put1 _ pr.1 pr.2
      obtain ⟨f2, hf2⟩ : ∃ f2, put1 f1 99 (pt (f1 99) (bitOf c) false) = f2 := ⟨_, rfl⟩
      rw [hf2] at PU R2 hF
      have WD := Lib.hid (fun (w' : World) (A' : Da w' g f2) => word_any A' R2 (o := c * 12) 2 (by omega) (by omega))
      obtain ⟨z0, z1⟩ := wordOf_rng R2 (c * 12 + 2)
      have SE := Lib.hid (fun (w' : World) (A' : Da w' g f2) => set_any A' (o := c * 12) 8 (by omega) (by omega) (wordOf f2 (c * 12 + 2)) z0 z1)
      obtain ⟨z, hz⟩ : ∃ z, wordOf f2 (c * 12 + 2) = z := ⟨_, rfl⟩
      rw [hz] at WD SE z0 z1 hF
      have HF := Lib.hid hF
      clear R' A' R1 R2 hf1 hf2 hz hF hr r99 pr hcc hx2 h0 h1 e0 e9 c102o M0
      go_wp2_with fail
      refine (LN.out _ A1.out).mono ?_
      rintro e w2 ⟨rfl, hb2⟩
      have a2 := A1.out.kept hb2
      have c101 := keepC hb2 c101
      have A2 := Lib.hid a2
      have U2 := Lib.hid (U1.out.trans (Upd.ofBelow hb2 g))
      clear a2 hb2 c102 A1 LN c103 f103
      go_wp2_with fail
      refine (PU.out _ A2.out).mono ?_
      rintro e w3 ⟨rfl, a3, u3⟩
      have A3 := Lib.hid a3
      have U3 := Lib.hid (U2.out.trans u3)
      clear a3 u3 A2 U2 PU c101
      go_wp2_with fail
      refine (WD.out _ A3.out).mono ?_
      rintro e w4 ⟨rfl, hb4⟩
      have A4 := Lib.hid (A3.out.kept hb4)
      have U4 := Lib.hid (U3.out.trans (Upd.ofBelow hb4 g))
      clear hb4 A3 U3 WD
      go_wp2_with fail
      refine (SE.out _ A4.out).mono ?_
      rintro e w5 ⟨rfl, a5, u5⟩
      have f103 := a5.frozen 103
      have c103 := a5.cell (j := 103) (by omega)
      have A5 := Lib.hid a5
      have U5 := Lib.hid (U4.out.trans u5)
      clear a5 u5 A4 U4 SE
      go_wp2_with fail
      (first | rw [jump_normal] | rw [jump_ret] | skip)
      go_wp2_with fail
      go_end0
      rw [HF.out]
      exact ⟨rfl, A5.out.put1 (by omega) _, U5.out.set _ _⟩
    | does h0 h1 h2 hr =>
      obtain ⟨hc, hf⟩ := low_of R' h0
      obtain ⟨c, hcc⟩ : ∃ c, lowC (f' 102) = c := ⟨_, rfl⟩
      rw [hcc] at hc hf h2
      obtain ⟨b0, b1⟩ := bitOf_rng c hc
      have h100 := A1.out.cell (j := 100) (by omega)
      rw [e0] at h100
      have t1 : (f' 101 == 1) = false := by simpa using h1
      have r100 := R' 100
      have dz : (bits .and .u8 (f' 100) (bitOf c) == 0) = false := by
        have := and_bit (f' 100) r100.1 r100.2 c hc
        rw [decide_eq_true h2] at this
        simpa using this
      obtain ⟨x2, hx2⟩ : ∃ x, f' 102 = x := ⟨_, rfl⟩
      rw [hx2] at c102 hf
      obtain ⟨x1, hx1⟩ : ∃ x, f' 101 = x := ⟨_, rfl⟩
      rw [hx1] at c101 t1
      obtain ⟨x0, hx0⟩ : ∃ x, f' 100 = x := ⟨_, rfl⟩
      rw [hx0] at h100 dz
      obtain ⟨f1, hf1⟩ : ∃ f1, put1 f' 103 0 = f1 := ⟨_, rfl⟩
      rw [hf1] at A1 R1 hr
      have LN := Lib.hid (fun (w' : World) (A' : Da w' g f1) => least_any A' c hc x2 hf)
      have HF := Lib.hid hr
      clear R' A' R1 hf1 hr hcc hx2 hx1 hx0 h0 h1 h2 e0 e9 c102o M0 r100
      go_wp2_with fail
      refine (LN.out _ A1.out).mono ?_
      rintro e w2 ⟨rfl, hb2⟩
      have a2 := A1.out.kept hb2
      have c101 := keepC hb2 c101
      have c100 := keepC hb2 h100
      have A2 := Lib.hid a2
      have U2 := Lib.hid (U1.out.trans (Upd.ofBelow hb2 g))
      clear a2 hb2 c102 A1 LN c103 f103 h100
      go_wp2_with fail
      (first | rw [jump_normal] | rw [jump_ret] | skip)
      go_wp2_with fail
      go_end0
      rw [HF.out]
      exact ⟨rfl, A2.out, U2.out⟩
    | stop h0 h1 h2 hq hr =>
      obtain ⟨hc, hf⟩ := low_of R' h0
      obtain ⟨c, hcc⟩ : ∃ c, lowC (f' 102) = c := ⟨_, rfl⟩
      rw [hcc] at hc hf h2 hq hr
      obtain ⟨b0, b1⟩ := bitOf_rng c hc
      have h100 := A1.out.cell (j := 100) (by omega)
      rw [e0] at h100
      have t1 : (f' 101 == 1) = false := by simpa using h1
      have r100 := R' 100
      have dz : bits .and .u8 (f' 100) (bitOf c) = 0 := by
        have := and_bit (f' 100) r100.1 r100.2 c hc
        rw [decide_eq_false h2] at this
        simpa using this
      obtain ⟨x2, hx2⟩ : ∃ x, f' 102 = x := ⟨_, rfl⟩
      rw [hx2] at c102 hf
      obtain ⟨x1, hx1⟩ : ∃ x, f' 101 = x := ⟨_, rfl⟩
      rw [hx1] at c101 t1
      obtain ⟨x0, hx0⟩ : ∃ x, f' 100 = x := ⟨_, rfl⟩
      rw [hx0] at h100 dz
      obtain ⟨f1, hf1⟩ : ∃ f1, put1 f' 103 0 = f1 := ⟨_, rfl⟩
      rw [hf1] at A1 R1 hr hq
      have LN := Lib.hid (fun (w' : World) (A' : Da w' g f1) => least_any A' c hc x2 hf)
      have CN := Lib.hid (fun (w' : World) (A' : Da w' g f1) => counted_any A' R1 c hc)
      rw [← hr, hq] at CN
      clear R' A' R1 hf1 hr hq hcc hx2 hx1 hx0 h0 h1 h2 e0 e9 c102o M0 r100
      go_wp2_with fail
      refine (LN.out _ A1.out).mono ?_
      rintro e w2 ⟨rfl, hb2⟩
      have a2 := A1.out.kept hb2
      have c101 := keepC hb2 c101
      have c100 := keepC hb2 h100
      have A2 := Lib.hid a2
      have U2 := Lib.hid (U1.out.trans (Upd.ofBelow hb2 g))
      clear a2 hb2 c102 A1 LN c103 f103 h100
      go_wp2_with fail
      refine (CN.out _ A2.out).mono ?_
      rintro e w3 ⟨rfl, a3, u3⟩
      have A3 := Lib.hid a3
      have U3 := Lib.hid (U2.out.trans u3)
      clear a3 u3 c100 c101 A2 U2 CN
      go_wp2_with fail
      (first | rw [jump_normal] | rw [jump_ret] | skip)
      go_wp2_with fail
      go_end0
      exact ⟨rfl, A3.out, U3.out⟩
    | again h0 h1 h2 hq hb =>
      obtain ⟨hc, hf⟩ := low_of R' h0
      have z := cnt102 _ hc hq
      obtain ⟨c, hcc⟩ : ∃ c, lowC (f' 102) = c := ⟨_, rfl⟩
      have r2 := R' 102
      have dr := low_drop (f' 102) (by omega) r2.2
      rw [hcc] at hc hf h2 hq hb z dr
      obtain ⟨b0, b1⟩ := bitOf_rng c hc
      have h100 := A1.out.cell (j := 100) (by omega)
      rw [e0] at h100
      have t1 : (f' 101 == 1) = false := by simpa using h1
      have r100 := R' 100
      have dz : bits .and .u8 (f' 100) (bitOf c) = 0 := by
        have := and_bit (f' 100) r100.1 r100.2 c hc
        rw [decide_eq_false h2] at this
        simpa using this
      have RC := cntF_rng R1 c hc
      obtain ⟨x2, hx2⟩ : ∃ x, f' 102 = x := ⟨_, rfl⟩
      rw [hx2] at c102 hf z dr c102o
      obtain ⟨x1, hx1⟩ : ∃ x, f' 101 = x := ⟨_, rfl⟩
      rw [hx1] at c101 t1
      obtain ⟨x0, hx0⟩ : ∃ x, f' 100 = x := ⟨_, rfl⟩
      rw [hx0] at h100 dz
      obtain ⟨f1, hf1⟩ : ∃ f1, put1 f' 103 0 = f1 := ⟨_, rfl⟩
      rw [hf1] at A1 R1 hq hb z RC
      have LN := Lib.hid (fun (w' : World) (A' : Da w' g f1) => least_any A' c hc x2 hf)
      have CN := Lib.hid (fun (w' : World) (A' : Da w' g f1) => counted_any A' R1 c hc)
      rw [hq] at CN
      obtain ⟨fn, hfn⟩ : ∃ q, (cntF c f1).2 = q := ⟨_, rfl⟩
      rw [hfn] at CN hb z RC
      have HB := Lib.hid hb
      have HRC := Lib.hid RC
      have r2n := RC 102
      rw [z] at r2n
      have HZ : Hid (fn 102 < x2 ∧ 0 ≤ fn 102) := Lib.hid (by rw [z]; exact ⟨dr, r2n.1⟩)
      have HC2 := Lib.hid c102o
      clear R' A' R1 hf1 hq hb hfn hcc hx2 hx1 hx0 h0 h1 h2 e0 e9 M0 r100 z dr RC r2 r2n c102o
      go_wp2_with fail
      refine (LN.out _ A1.out).mono ?_
      rintro e w2 ⟨rfl, hb2⟩
      have a2 := A1.out.kept hb2
      have c101 := keepC hb2 c101
      have c100 := keepC hb2 h100
      have A2 := Lib.hid a2
      have U2 := Lib.hid (U1.out.trans (Upd.ofBelow hb2 g))
      clear a2 hb2 c102 A1 LN c103 f103 h100
      go_wp2_with fail
      refine (CN.out _ A2.out).mono ?_
      rintro e w3 ⟨rfl, a3, u3⟩
      have A3 := Lib.hid a3
      have U3 := Lib.hid (U2.out.trans u3)
      clear a3 u3 c100 c101 A2 U2 CN
      go_wp2_with fail
      refine wp_goto ?_
      refine ⟨rfl, ⟨_, _, _, _, _, _, _, _, _, _, _, _, _, _, _, _, _, _, _, _, _, _, _, _, _, _, _, _, _, _, _, _, _, _, _, _, _, _, _, _, _, _, _, _, _, _, _, _, _, _, fn, rfl, A3.out, HRC.out, HB.out, U3.out⟩, ?_⟩
      have z3 := A3.out.cell (j := 102) (by omega)
      have hz := HZ.out
      unfold muB
      rw [z3, HC2.out]
      show (fn 102).toNat < x2.toNat
      omega
theorem begin_gen (A : Da w g f) (R : Rng f) {r : Nat → Int} (H : Beg r f) :
    Calls Try.prog 43 #[.pointer (some ⟨g, 0, none⟩)] w (Wrote w g r (.tuple #[])) := begin_at A R H (Upd.refl _ _)
end
end Go.Proofs.Ytkeikkkcmackeaa
