/- BeamCounters: the walk. -/
import Derived.Test.YtjhicjmfdcipmaaBeamW
import Derived.Test.YtjhicjmfdcipmaaOpen
import Derived.Test.YtjhicjmfdcipmaaRel
import Derived.Test.YtjhicjmfdcipmaaSaveJ
import Derived.Test.YtjhicjmfdcipmaaKeep
import Derived.Deep.DeepCutAuto
import Derived.WalkKit
import Derived.ProofKit
import Derived.OpenShut
import Derived.Outline
import Derived.Deep.CutBlock
namespace Go.Proofs.Ytjhicjmfdcipmaa.beamCounters
open Go.RowKit Go.ChangeShapes
set_option linter.unusedVariables false
set_option linter.unusedSimpArgs false
set_option maxRecDepth 100000
/-- The counter and the document's, side by side. -/
structure Cn (w wr : World) (g B : Nat) (c : Ct) : Prop where
  co : Co wr g c
  ro : Ro wr B c
  ok : c.Ok
  dn : c.dn ≤ 340
  ln : c.ln < 262
  bel : Below w.heap.size w wr
  gw : w.heap.size ≤ g
  Bw : w.heap.size ≤ B
  ne : g ≠ B
theorem Cn.kept {w wr w' : World} {g B : Nat} {c : Ct} (h : Cn w wr g B c) (k : Below wr.heap.size wr w') : Cn w w' g B c :=
  ⟨h.co.kept k, h.ro.kept k, h.ok, h.dn, h.ln, h.bel.trans (k.mono h.bel.size), h.gw, h.Bw, h.ne⟩
theorem rd_keeps (p t : Int) (c : Ct) : (rdF p t c).2.dn = c.dn ∧ (rdF p t c).2.ln = c.ln := by
  unfold rdF
  split
  · exact ⟨rfl, rfl⟩
  · split
    · exact ⟨rfl, rfl⟩
    · split <;> exact ⟨rfl, rfl⟩
theorem ok_of {c c' : Ct} (K : c.Ok) (h1 : c'.dn = c.dn) (h2 : c'.ln = c.ln) : c'.Ok := ⟨by rw [h1]; exact K.d0, by rw [h1]; exact K.d1, by rw [h2]; exact K.l0, by rw [h2]; exact K.l1⟩
theorem latch_ok {t : Int} (h : 0 ≤ t) (c : Ct) : (latchC t c).Ok ∧ (latchC t c).dn ≤ 340 ∧ (latchC t c).ln < 262 := by
  unfold latchC
  refine ⟨⟨?_, ?_, ?_, ?_⟩, ?_, ?_⟩ <;> dsimp only <;> omega
/-- What the round's last region yields. -/
def cmpS (g : Nat) (c : Ct) : Nat → Value → List Value → World → Prop
  | 0, v, _, _ => v = ctP g
  | 1, v, _, w' => FileAt 0 (fileOf (ctB c)) v w'
  | 2, v, _, _ => v = .agg c.rs
  | 3, v, _, w' => FileAt 0 (fileOf (ctB c)) v w'
  | 4, v, _, _ => v = .bool true
  | 5, v, _, _ => v = .bool false
  | _, _, _, _ => True
theorem cmpS_mono {g : Nat} {c : Ct} (i : Nat) (v : Value) (q : List Value) (w w' : World) (h : cmpS g c i v q w) (k : Below w.heap.size w w') : cmpS g c i v q w' := by
  match i, h with
  | 0, h => exact h
  | 1, h => exact FileAt.kept h k
  | 2, h => exact h
  | 3, h => exact FileAt.kept h k
  | 4, h => exact h
  | 5, h => exact h
  | _ + 6, h => exact trivial
theorem can_of {c : Ct} (h1 : c.dn ≤ 340) (h2 : c.ln < 262) : c.can = true := by unfold Ct.can; rw [decide_eq_true h1, decide_eq_true h2]; rfl
set_option maxHeartbeats 16000000 in
theorem law (v : Value) (m : Nat) (f0 f1 f2 : Nat → Int) (w : World) (S : Sees3 w .i64 .u8 .i64 v m f0 f1 f2) (hm : m ≤ 9223372036854775807) (hw1 : ∀ j, j < m → 0 ≤ f1 j ∧ f1 j ≤ 255) :
    Calls Try.prog 9 #[v] w fun e w' => e = .returned (.bool true) ∧ Below w.heap.size w w' := by
  obtain ⟨ao, cc, rfl, hsee⟩ := S
  have Z := Lib.hid hsee
  have HW1 := Lib.hid hw1
  have AW := Lib.hid awake_true
  clear hsee hw1
  go_enter Try.func9, Try.ntmps9
  try simp only [List.append_eq, List.cons_append, List.nil_append]
  go_wp2_with fail
  refine (newCt_any w).mono ?_
  rintro e w1 ⟨g, rfl, hg, hx, b1⟩
  have hgl : g < w1.heap.size := hx.lt
  obtain ⟨W2, hW⟩ : ∃ W2, W2 = w1.alloc (.cells Ct.zero.rs 37) := ⟨_, rfl⟩
  obtain ⟨B, hB⟩ : ∃ B, B = w1.heap.size := ⟨_, rfl⟩
  have I0 : Hid (Cn w W2 g B Ct.zero) := Lib.hid ⟨by rw [hW]; exact hx.alloc _, by rw [hW, hB]; exact Blk.new _ _ _, by constructor <;> decide, by decide, by decide, by rw [hW]; exact b1.trans ((belowA (Below.refl _ _) _).mono b1.size), hg, by rw [hB]; exact b1.size, by omega⟩
  have HW : Hid (W2 = w1.alloc (.cells #[.int .i64 0, .int .i64 0, .bool false, .bool false, .bool false] 37)) := Lib.hid (by rw [hW]; rfl)
  have HB := Lib.hid hB
  clear hx b1 hgl hW hB
  go_wp2_with fail
  rw [← HW.out, ← HB.out]
  clear HW HB
  go_loopw [3, 17] (fun s3 i wr => ∃ (k : Nat) (g : Nat) (c : Ct), i = .int .i64 k ∧ k ≤ m ∧ s3 = ctP g ∧ Cn w wr g B c) (fun _ i _ => m - (intOf i).toNat)
  case atStart => exact ⟨0, g, Ct.zero, rfl, Nat.zero_le _, rfl, I0.out⟩
  case round =>
    obtain ⟨k, g, c, rfl, hk, rfl, hc⟩ := hrel
    have C := Lib.hid hc
    clear I0 hc
    by_cases hlt : k < m
    · obtain ⟨bb, off, rfl, hcl⟩ := Z.out.resolve_left (by omega)
      have hbb : bb < w.heap.size := World.block_lt_of_cell? _ _ (hcl k hlt).1
      have x0 : wr.cell? ⟨bb, off + k * 3, none⟩ = some (.int .i64 (f0 k)) := by rw [← (hcl k hlt).1]; exact C.out.bel.cell (p := ⟨bb, off + k * 3, none⟩) hbb
      have x1 : wr.cell? ⟨bb, off + k * 3 + 1, none⟩ = some (.int .u8 (f1 k)) := by rw [← (hcl k hlt).2.1]; exact C.out.bel.cell (p := ⟨bb, off + k * 3 + 1, none⟩) hbb
      have x2 : wr.cell? ⟨bb, off + k * 3 + 2, none⟩ = some (.int .i64 (f2 k)) := by rw [← (hcl k hlt).2.2]; exact C.out.bel.cell (p := ⟨bb, off + k * 3 + 2, none⟩) hbb
      have hy := HW1.out k hlt
      clear hcl
      obtain ⟨wt, hwt⟩ : ∃ x, f0 k = x := ⟨_, rfl⟩
      obtain ⟨po, hpo⟩ : ∃ x, f1 k = x := ⟨_, rfl⟩
      obtain ⟨tt, htt⟩ : ∃ x, f2 k = x := ⟨_, rfl⟩
      rw [hwt] at x0
      rw [hpo] at x1 hy
      rw [htt] at x2
      obtain ⟨y0, y1⟩ := hy
      clear hwt hpo htt
      go_upto_block 2 with fail
      obtain ⟨E, hE⟩ : ∃ E, E = wr.heap.size := ⟨_, rfl⟩
      obtain ⟨W3, hW⟩ : ∃ W3, W3 = wr.alloc (.cells #[.int .i64 wt, .int .u8 po, .int .i64 tt] 55) := ⟨_, rfl⟩
      have ev : Blk W3 E 55 #[.int .i64 wt, .int .u8 po, .int .i64 tt] := by rw [hW, hE]; exact Blk.new _ _ _
      have cb : Below wr.heap.size wr W3 := by rw [hW]; exact belowA (Below.refl _ _) _
      rw [← hW, ← hE]
      have nE1 : E ≠ g := by have := C.out.co.lt; omega
      have nE2 : E ≠ B := by have := C.out.ro.lt; omega
      have hEw : w.heap.size ≤ E := by rw [hE]; exact C.out.bel.size
      have C3 := Lib.hid (C.out.kept cb)
      have EV := Lib.hid ev
      have p0 : W3.cell? ⟨E, 0, none⟩ = some (.int .i64 wt) := ev.cell 0
      have p1 : W3.cell? ⟨E, 1, none⟩ = some (.int .u8 po) := ev.cell 1
      have p2 : W3.cell? ⟨E, 2, none⟩ = some (.int .i64 tt) := ev.cell 2
      clear hW hE ev cb C x0 x1 x2 hbb
      go_cut [3, 7, 8, 9, 10, 11, 12, 13] from 23 to 79 (fun s3 s7 s8 s9 s10 s11 s12 s13 wx => ∃ (g' : Nat) (c' : Ct), s3 = ctP g' ∧ Cn w wx g' B c')
      case first =>
        by_cases h0 : wt = 0
        · subst h0
          cases hT : isT tt with
          | true =>
            obtain ⟨t0, t1⟩ := isT_yes hT
            have L1 := Lib.hid (latch_yes C3.out.co tt t0 t1)
            go_wp2_with fail
            refine L1.out.mono ?_
            rintro e w4 ⟨rfl, x4, u4⟩
            have X4 := Lib.hid x4
            have R4 := Lib.hid (u4.blk C3.out.ro (fun e => C3.out.ne e.symm))
            have B4 := Lib.hid (u4.out C3.out.bel C3.out.gw)
            have p2' : w4.cell? ⟨E, 2, none⟩ = some (.int .i64 tt) := (u4.blk EV.out nE1).cell 2
            have L2 := Lib.hid (rLatch_yes R4.out tt t0 t1)
            clear x4 u4 p0 p1 p2
            go_wp2_with fail
            refine L2.out.mono ?_
            rintro e w5 ⟨rfl, x5, u5⟩
            have CN : Hid (Cn w w5 g B (latchC tt c)) := Lib.hid ⟨u5.blk X4.out C3.out.ne, x5, (latch_ok t0 c).1, (latch_ok t0 c).2.1, (latch_ok t0 c).2.2, u5.out B4.out C3.out.Bw, C3.out.gw, C3.out.Bw, C3.out.ne⟩
            clear x5 u5
            go_wp2_with fail
            go_meet
            exact ⟨g, _, rfl, CN.out⟩
          | false =>
            have nT := isT_no hT
            have L1 := Lib.hid (latch_no (g := g) (w := W3) tt nT)
            clear nT
            go_wp2_with fail
            refine L1.out.mono ?_
            rintro e w4 ⟨rfl, b4⟩
            have C4 := Lib.hid (C3.out.kept b4)
            have p2' : w4.cell? ⟨E, 2, none⟩ = some (.int .i64 tt) := (EV.out.kept b4).cell 2
            have L2 := Lib.hid (rLatch_no tt (isT_no hT) w4 B)
            clear b4 p0 p1 p2
            go_wp2_with fail
            refine L2.out.mono ?_
            rintro e w5 ⟨rfl, b5⟩
            have CN := Lib.hid (C4.out.kept b5)
            clear b5
            go_wp2_with fail
            go_meet
            exact ⟨g, c, rfl, CN.out⟩
        · by_cases h1 : wt = 1
          · subst h1
            have L1 := Lib.hid (rRead_any C3.out.ro C3.out.ok po tt)
            obtain ⟨KD, KL⟩ := rd_keeps po tt c
            have KC : Hid ((rdF po tt c).2.Ok ∧ (rdF po tt c).2.dn ≤ 340 ∧ (rdF po tt c).2.ln < 262) := Lib.hid ⟨ok_of C3.out.ok KD KL, by rw [KD]; exact C3.out.dn, by rw [KL]; exact C3.out.ln⟩
            have L2 : Hid (∀ W, Co W g c → Calls Try.prog 27 #[ctP g, .int .u8 po, .int .i64 tt] W (CtW W g (rdF po tt c).2 (.tuple #[.int .u8 (rdF po tt c).1.1, .bool (rdF po tt c).1.2]))) := Lib.hid (fun W A => read_any A C3.out.ok po tt)
            obtain ⟨ra, hra⟩ : ∃ x, (rdF po tt c).1.1 = x := ⟨_, rfl⟩
            obtain ⟨rb, hrb⟩ : ∃ x, (rdF po tt c).1.2 = x := ⟨_, rfl⟩
            obtain ⟨c', hc'⟩ : ∃ x, (rdF po tt c).2 = x := ⟨_, rfl⟩
            rw [hra, hrb, hc'] at L1 L2
            rw [hc'] at KC
            clear hra hrb hc' KD KL
            go_wp2_with fail
            refine L1.out.mono ?_
            rintro e w4 ⟨rfl, x4, u4⟩
            have X4 := Lib.hid x4
            have R4 := Lib.hid (u4.blk C3.out.co C3.out.ne)
            have B4 := Lib.hid (u4.out C3.out.bel C3.out.Bw)
            have p1' : w4.cell? ⟨E, 1, none⟩ = some (.int .u8 po) := (u4.blk EV.out nE2).cell 1
            have p2' : w4.cell? ⟨E, 2, none⟩ = some (.int .i64 tt) := (u4.blk EV.out nE2).cell 2
            have L3 := Lib.hid (L2.out w4 R4.out)
            clear x4 u4 p0 p1 p2 L1 L2
            go_wp2_with fail
            refine L3.out.mono ?_
            rintro e w5 ⟨rfl, x5, u5⟩
            have CN : Hid (Cn w w5 g B c') := Lib.hid ⟨x5, u5.blk X4.out (fun e => C3.out.ne e.symm), KC.out.1, KC.out.2.1, KC.out.2.2, u5.out B4.out C3.out.gw, C3.out.gw, C3.out.Bw, C3.out.ne⟩
            clear x5 u5
            go_wp2_with fail
            go_meet
            exact ⟨g, _, rfl, CN.out⟩
          · have SV := Lib.hid (savedCt_any C3.out.co C3.out.ok)
            clear p0 p1 p2
            go_wp2_with fail
            refine SV.out.mono ?_
            rintro e w4 ⟨v4, rfl, hf, b4⟩
            have NR := Lib.hid (newR_any w4 v4 (ctB c) _ hf (by intro e; have := ctB_len c; rw [e] at this; cases this) (ctB_byts c) (by rw [ctB_len]; omega))
            have C4 := Lib.hid (C3.out.kept b4)
            have S4 := b4.size
            clear hf b4 SV
            go_wp2_with fail
            refine NR.out.mono ?_
            rintro e w5 ⟨gr, bg, cr, rfl, hgr, hbg, hr, b5⟩
            have HR := Lib.hid hr
            have C5 := Lib.hid (C4.out.kept b5)
            clear hr b5 NR C4
            go_wp2_with fail
            refine (newCt_any w5).mono ?_
            rintro e w6 ⟨g2, rfl, hg2, hx, b6⟩
            have X6 := Lib.hid hx
            have HR6 := Lib.hid (HR.out.kept b6)
            have C6 := Lib.hid (C5.out.kept b6)
            have n1 : g2 ≠ gr := by have := HR.out.lt; omega
            have n2 : g2 ≠ bg := by have := HR.out.room; omega
            have n3 : g2 ≠ B := by have := C5.out.ro.lt; omega
            have hgrB : B ≠ gr := by have := C3.out.ro.lt; omega
            have hg2w : w.heap.size ≤ g2 := Nat.le_trans C5.out.bel.size hg2
            have hgrw : w.heap.size ≤ gr := Nat.le_trans C3.out.bel.size (Nat.le_trans S4 hgr)
            have LD := Lib.hid (loadCt_any X6.out C3.out.ok HR6.out n1 n2)
            clear hx b6 C5 HR
            go_wp2_with fail
            refine LD.out.mono ?_
            rintro e w7 ⟨rfl, x7, r7, u7⟩
            rw [if_pos (can_of C3.out.dn C3.out.ln)] at x7 ⊢
            have X7 := Lib.hid x7
            have R7 : Hid (Ro w7 B c) := Lib.hid ((u7.2.2.2.2 B C6.out.ro.lt hgrB (fun e => n3 e.symm)).trans C6.out.ro)
            have B7 : Hid (Below w.heap.size w w7) := Lib.hid (C6.out.bel.trans ⟨u7.1, u7.2.1, u7.2.2.1, u7.2.2.2.1, fun i hi => u7.2.2.2.2 i (Nat.lt_of_lt_of_le hi C6.out.bel.size) (by omega) (by omega)⟩)
            have DN := Lib.hid (rdDone_any (bs := ctB c) (by rw [ctB_len]; exact r7))
            clear x7 r7 u7 LD
            go_wp2_with fail
            refine DN.out.mono ?_
            rintro e w8 ⟨rfl, b8⟩
            have CN : Hid (Cn w w8 g2 B c) := Lib.hid ⟨X7.out.kept b8, R7.out.kept b8, C3.out.ok, C3.out.dn, C3.out.ln, B7.out.trans (b8.mono B7.out.size), hg2w, C3.out.Bw, n3⟩
            clear b8
            go_wp2_with fail
            go_meet
            exact ⟨g2, _, rfl, CN.out⟩
      case rest =>
        obtain ⟨g', c', rfl, hcn⟩ := hcut
        have CN := Lib.hid hcn
        clear hcn C3 EV p0 p1 p2
        go_upto_region 20 with fail
        refine wp_region_rel (C := fun w' => Below wc.heap.size wc w') (S := cmpS g' c') (Ev := fun a b => Below a.heap.size a b) (by kernel_rfl) (by kernel_rfl) cmpS_mono ?_ ?_ ?_
        · exact belowD (Below.refl _ _)
        · simp only [stepsOf]
          refine ⟨fun us w' hw hd => stepOf_plain rfl ?_, fun us w' hw hd => stepOf_plain rfl ?_, fun us w' hw hd => stepOf_plain rfl ?_, fun us w' hw hd => stepOf_plain rfl ?_, fun us w' hw hd => stepOf_plain rfl ?_, fun us w' hw hd => stepOf_plain rfl ?_, trivial⟩
          all_goals simp only [fill, List.filterMap_cons, List.filterMap_nil]
          · go_simp
            exact ⟨_, rfl, hw, rfl, Below.refl _ _⟩
          · have h : us 80 = ctP g' := hd.1 rfl
            have SV := Lib.hid (savedCt_any (CN.out.co.kept hw) CN.out.ok)
            go_simp
            refine SV.out.mono ?_
            rintro e w2 ⟨v2, rfl, hf, b2⟩
            exact ⟨_, rfl, belowStep hw b2, hf.weak (Nat.zero_le _), b2⟩
          · have k0 : w'.cell? ⟨B, 0, none⟩ = some (.int .i64 c'.dn) := (CN.out.ro.kept hw).cell 0
            have k1 : w'.cell? ⟨B, 1, none⟩ = some (.int .i64 c'.ln) := (CN.out.ro.kept hw).cell 1
            have k2 : w'.cell? ⟨B, 2, none⟩ = some (.bool c'.kept) := (CN.out.ro.kept hw).cell 2
            have k3 : w'.cell? ⟨B, 3, none⟩ = some (.bool c'.dh) := (CN.out.ro.kept hw).cell 3
            have k4 : w'.cell? ⟨B, 4, none⟩ = some (.bool c'.lh) := (CN.out.ro.kept hw).cell 4
            go_simp
            exact ⟨_, rfl, hw, rfl, Below.refl _ _⟩
          · have h : us 82 = .agg c'.rs := hd.1 rfl
            go_simp
            refine (putCt_any _ c' CN.out.ok).mono ?_
            rintro e w2 ⟨v2, rfl, hf, b2⟩
            exact ⟨_, rfl, belowStep hw b2, hf.weak (Nat.zero_le _), b2⟩
          · have h1 : FileAt 0 (fileOf (ctB c')) (us 81) w' := hd.1 rfl
            have h2 : FileAt 0 (fileOf (ctB c')) (us 83) w' := hd.2.1 rfl
            have BY := bytesF_any h1 h2 (by rw [file_len, ctB_len]; omega) (by rw [file_len, ctB_len]; omega)
            rw [decide_eq_true rfl] at BY
            clear h1 h2
            go_simp
            refine BY.mono ?_
            rintro e w2 ⟨rfl, b2⟩
            exact ⟨_, rfl, belowStep hw b2, rfl, b2⟩
          · have h : us 84 = .bool true := hd.1 rfl
            go_simp
            exact ⟨_, rfl, hw, rfl, Below.refl _ _⟩
        · intro us w' hw ha
          obtain ⟨_, _, _, _, _, h85, _⟩ := ha
          have e85 : us 85 = .bool false := h85
          have C9 := Lib.hid (CN.out.kept hw)
          clear h85 hw
          simp only [fill, List.filterMap_cons, List.filterMap_nil, List.contains_cons, List.contains_nil, Nat.zero_add, Nat.reduceAdd, Nat.reduceBEq, Bool.or_false, Bool.or_true, Bool.false_or, Bool.true_or, Bool.or_self, Bool.false_eq_true, if_true, if_false]
          rw [e85]
          go_wp2_with fail
          go_roundw
          case rel => exact ⟨k + 1, g', c', by go_num, by omega, rfl, C9.out⟩
          case measure => simp [intOf]; omega
    · have hkm : k = m := by omega
      subst hkm
      go_wp2_with fail
      refine (AW.out _).mono ?_
      rintro e w14 ⟨rfl, rfl⟩
      go_wp2_with fail
      go_ret
      exact ⟨rfl, belowA C.out.bel _⟩
open Go.WideShapes Go.ChangeAt in
theorem walk (H : Type) (enc : TypeId × Value → H) (W : World) (base : Nat) (v0 : Value) {d0 : DataW H} {p0 : List MemPlace}
    (k0 : Value.okWide Try.prog W .any base 53 v0) (h0 : DataW.Trod enc Try.prog W 0 (fun _ => true) true 53 v0 d0 p0) :
    Calls Try.prog 9 #[v0] W fun e w' => e = .returned (.bool true) ∧ Below W.heap.size W w' := by
  obtain ⟨m, f0, f1, f2, S, hm, hw⟩ := openThree Try.underlying53 Try.underlying55 (by kernel_rfl) rfl rfl rfl (by kernel_rfl) (by kernel_rfl) (by kernel_rfl) Try.underlying3 Try.underlying5 Try.underlying3 k0 h0
  exact law v0 m f0 f1 f2 W S hm (fun j hj => wf_u8 (hw j hj).2.1)
end Go.Proofs.Ytjhicjmfdcipmaa.beamCounters
