/- beam: a counter's Load. -/
import Derived.Test.YtjhicjmfdcipmaaBeamS
import Derived.Test.YtjhicjmfdcipmaaSaveRW
import Derived.Test.YtjhicjmfdcipmaaSaveRF
import Derived.Test.YtjhicjmfdcipmaaFill
namespace Go.Proofs.Ytjhicjmfdcipmaa
open Go.RowKit
set_option linter.unusedVariables false
set_option linter.unusedSimpArgs false
set_option maxRecDepth 100000
/-- Can a counter be so? -/
def Ct.can (c : Ct) : Bool := decide (c.dn ≤ 340) && decide (c.ln < 262)
def ctW (c : Ct) : List (Nat × Value) := [(0, .int .u16 c.dn), (2, .int .u16 c.ln)]
def ctF (c : Ct) : List (Nat × Value) := [(4, .bool c.kept), (1, .bool c.dh), (3, .bool c.lh)]
def LoadCt (W : World) (g gr bg cc : Nat) (old c : Ct) (bs : List Int) (e : Ending) (w' : World) : Prop :=
  e = .returned (.int .i64 (if c.can then 0 else 190)) ∧ Co w' g (if c.can then c else old) ∧ Rd w' gr bg cc 7 bs ∧ Upd2 W gr g w'
section
variable {w : World} {g gr bg cc : Nat} {old c : Ct}
theorem idx2 (B k : Nat) (hk : k < 2) (w : World) : (Instr.index 79 (.agg #[.pointer (some ⟨B, 0, none⟩), .pointer (some ⟨B, 2, none⟩)]) (.int .i64 k)).run Try.prog w = .ok (.pointer (some ⟨B, 2 * k, none⟩)) w := by
  rcases (show k = 0 ∨ k = 1 by omega) with rfl | rfl
  all_goals kernel_rfl
theorem idx3 (B k o : Nat) (hk : k < 3) (v : Value) (c : Ct) (h : (ctF c)[k]? = some (o, v)) (w : World) : (Instr.index 83 (.agg #[.pointer (some ⟨B, 4, none⟩), .pointer (some ⟨B, 1, none⟩), .pointer (some ⟨B, 3, none⟩)]) (.int .i64 k)).run Try.prog w = .ok (.pointer (some ⟨B, o, none⟩)) w := by
  rcases (show k = 0 ∨ k = 1 ∨ k = 2 by omega) with rfl | rfl | rfl
  all_goals
    simp [ctF] at h
    obtain ⟨rfl, _⟩ := h
    kernel_rfl
theorem num2 (x : Int) (h0 : 0 ≤ x) (h1 : x ≤ 65535) : num (le 2 x) = x := num_le 2 x h0 (by rw [show (256 : Int) ^ 2 = 65536 by decide]; omega)
set_option maxHeartbeats 8000000 in
theorem loadCt_any (A : Co w g old) (K : c.Ok) (H : Rd w gr bg cc 0 (ctB c)) (n1 : g ≠ gr) (n2 : g ≠ bg) :
    Calls Try.prog 26 #[ctP g, rdP gr] w (LoadCt w g gr bg cc old c (ctB c)) := by
  have hg := A.lt
  have hgr := H.lt
  have hbg := H.room
  have AA := Lib.hid A
  have HH := Lib.hid H
  have KK := Lib.hid K
  clear A H K
  go_enter Try.func26, Try.ntmps26
  go_upto_region 4 with (fail)
  obtain ⟨W2, hW⟩ : ∃ W2, W2 = w.alloc (.cells #[.int .u16 0, .bool false, .int .u16 0, .bool false, .bool false] 76) := ⟨_, rfl⟩
  obtain ⟨B, hB⟩ : ∃ B, B = w.heap.size := ⟨_, rfl⟩
  have cb : Below w.heap.size w W2 := by rw [hW]; exact belowA (Below.refl _ _) _
  have k : Blk W2 B 76 Ct.zero.cs := by rw [hW, hB]; exact Blk.new _ _ _
  rw [← hW, ← hB]
  have A2 := Lib.hid (AA.out.kept cb)
  have H2 := Lib.hid (HH.out.kept cb)
  have KB := Lib.hid k
  have CB := Lib.hid cb
  have HBB := Lib.hid hB
  have nBr : B ≠ gr := by omega
  have nBb : B ≠ bg := by omega
  have nBg : B ≠ g := by omega
  clear hW hB cb k AA HH
  go_wp2_with fail
  go_loopw [21] (fun i wr => ∃ k : Nat, k ≤ 2 ∧ i = .int .i64 k ∧ Blk wr B 76 (setAll Ct.zero.cs ((ctW c).take k)) ∧ Rd wr gr bg cc (2 * k) (ctB c) ∧ Upd2 W2 gr B wr) (fun i _ => 2 - (intOf i).toNat)
  case atStart => exact ⟨0, by omega, rfl, KB.out, H2.out, Upd2.ofBelow (Below.refl _ _) _ _⟩
  case round =>
    obtain ⟨k, hk, rfl, kb, hr, u⟩ := hrel
    have U := Lib.hid u
    clear u KB H2
    by_cases hlt : k < 2
    · obtain ⟨x, hx⟩ : ∃ x : Int, (ctW c)[k]? = some (2 * k, .int .u16 x) ∧ ((ctB c).drop (2 * k)).take 2 = le 2 x ∧ 0 ≤ x ∧ x ≤ 65535 := by
        rcases (show k = 0 ∨ k = 1 by omega) with rfl | rfl
        · exact ⟨c.dn, rfl, rfl, KK.out.d0, KK.out.d1⟩
        · exact ⟨c.ln, rfl, rfl, KK.out.l0, KK.out.l1⟩
      have hidx := idx2 B k hlt wr
      have RW := Lib.hid (readWord_any hr (by rw [ctB_len]; omega))
      rw [hx.2.1, num2 x hx.2.2.1 hx.2.2.2] at RW
      have SN := Lib.hid (setAll_snoc Ct.zero.cs (ctW c) k _ _ hx.1)
      have KBk := Lib.hid kb
      clear hx kb hr
      go_wp2_with fail
      refine RW.out.mono ?_
      rintro e w2 ⟨rfl, h2, u2⟩
      have kb2 := u2.blk KBk.out nBr
      obtain ⟨uo, hu⟩ := setAll_some Ct.zero.cs ((ctW c).take k) (2 * k) (by show 2 * k < 5; omega)
      have c2 : w2.cell? ⟨B, 2 * k, none⟩ = some uo := (kb2.cell _).trans hu
      have f2 := kb2.frozen (2 * k)
      have KB2 := Lib.hid kb2
      have H2 := Lib.hid h2
      have U2 := Lib.hid (U.out.trans (Upd2.ofUpd (v := B) u2))
      clear h2 u2 kb2 hu RW KBk U
      go_wp2_with fail
      go_roundw
      case rel => exact ⟨k + 1, by omega, by go_num, by rw [SN.out]; exact KB2.out.set_ _ _, by rw [show 2 * (k + 1) = 2 * k + 2 by omega]; exact H2.out.newer nBr nBb _, U2.out.trans ⟨rfl, rfl, rfl, by simp [World.setCell], fun i hi n m => Below.heap_setCell _ _ _ _ m⟩⟩
      case measure => simp [intOf]; omega
    · have hke : k = 2 := by omega
      subst hke
      have KB3 : Hid (Blk wr B 76 (setAll (setAll Ct.zero.cs (ctW c)) ((ctF c).take 0))) := Lib.hid kb
      have H3 : Hid (Rd wr gr bg cc (4 + 0) (ctB c)) := Lib.hid hr
      clear kb hr hlt
      obtain ⟨w0, rfl⟩ : ∃ w0 : World, w0 = wr := ⟨_, rfl⟩
      go_wp2_with fail
      go_loopw [42] (fun i wr => ∃ k : Nat, k ≤ 3 ∧ i = .int .i64 k ∧ Blk wr B 76 (setAll (setAll Ct.zero.cs (ctW c)) ((ctF c).take k)) ∧ Rd wr gr bg cc (4 + k) (ctB c) ∧ Upd2 W2 gr B wr) (fun i _ => 3 - (intOf i).toNat)
      case atStart => exact ⟨0, by omega, rfl, KB3.out, H3.out, U.out⟩
      case round =>
        obtain ⟨k, hk, rfl, kb, hr, u⟩ := hrel
        have U := Lib.hid u
        clear u KB3 H3
        by_cases hlt : k < 3
        · obtain ⟨o, x, hx⟩ : ∃ (o : Nat) (x : Bool), (ctF c)[k]? = some (o, .bool x) ∧ (ctB c)[4 + k]? = some (if x then 1 else 0) ∧ o < 5 := by
            have e : ∀ b : Bool, (if b then (1 : Int) else 0) % 256 = if b then 1 else 0 := fun b => by cases b <;> rfl
            rcases (show k = 0 ∨ k = 1 ∨ k = 2 by omega) with rfl | rfl | rfl
            · exact ⟨4, c.kept, rfl, by rw [← e c.kept]; rfl, by omega⟩
            · exact ⟨1, c.dh, rfl, by rw [← e c.dh]; rfl, by omega⟩
            · exact ⟨3, c.lh, rfl, by rw [← e c.lh]; rfl, by omega⟩
          have hidx := idx3 B k o hlt _ c hx.1 wr
          have RW := Lib.hid (readFlag_any hr x hx.2.1)
          have SN := Lib.hid (setAll_snoc (setAll Ct.zero.cs (ctW c)) (ctF c) k _ _ hx.1)
          have KBk := Lib.hid kb
          have ho := hx.2.2
          clear hx kb hr
          go_wp2_with fail
          refine RW.out.mono ?_
          rintro e w2 ⟨rfl, h2, u2⟩
          have kb2 := u2.blk KBk.out nBr
          obtain ⟨uo, hu⟩ := setAll_some (setAll Ct.zero.cs (ctW c)) ((ctF c).take k) o (by rw [setAll_size]; exact ho)
          have c2 : w2.cell? ⟨B, o, none⟩ = some uo := (kb2.cell _).trans hu
          have f2 := kb2.frozen o
          have KB2 := Lib.hid kb2
          have H2 := Lib.hid h2
          have U2 := Lib.hid (U.out.trans (Upd2.ofUpd (v := B) u2))
          clear h2 u2 kb2 hu RW KBk U
          go_wp2_with fail
          go_roundw
          case rel =>
            (repeat apply Exists.intro)
            exact ⟨⟨k + 1, by omega, by go_num, by rw [SN.out]; exact KB2.out.set_ _ _, by rw [show 4 + (k + 1) = 4 + k + 1 by omega]; exact H2.out.newer nBr nBb _, U2.out.trans ⟨rfl, rfl, rfl, by simp [World.setCell], fun i hi n m => Below.heap_setCell _ _ _ _ m⟩⟩, rfl⟩
          case measure => simp [intOf]; omega
        · have hke : k = 3 := by omega
          subst hke
          have kb' : Blk wr B 76 #[.int .u16 c.dn, .bool c.dh, .int .u16 c.ln, .bool c.lh, .bool c.kept] := kb
          have e0 : wr.cell? ⟨B, 0, none⟩ = some (.int .u16 c.dn) := kb'.cell 0
          have e1 : wr.cell? ⟨B, 1, none⟩ = some (.bool c.dh) := kb'.cell 1
          have e2 : wr.cell? ⟨B, 2, none⟩ = some (.int .u16 c.ln) := kb'.cell 2
          have e3 : wr.cell? ⟨B, 3, none⟩ = some (.bool c.lh) := kb'.cell 3
          have e4 : wr.cell? ⟨B, 4, none⟩ = some (.bool c.kept) := kb'.cell 4
          have H3 : Hid (Rd wr gr bg cc 7 (ctB c)) := Lib.hid hr
          have bg0 : Blk wr g 76 old.cs := (U.out.2.2.2.2 g A2.out.lt n1 (fun e => nBg e.symm)).trans A2.out
          have q0 := bg0.cell 0
          have q1 := bg0.cell 1
          have q2 := bg0.cell 2
          have q3 := bg0.cell 3
          have q4 := bg0.cell 4
          have p0 := bg0.frozen 0
          have p1 := bg0.frozen 1
          have p2 := bg0.frozen 2
          have p3 := bg0.frozen 3
          have p4 := bg0.frozen 4
          simp only [Ct.cs] at q0 q1 q2 q3 q4
          have BG := Lib.hid bg0
          have U3 := Lib.hid (Upd2.upd U.out CB.out (by rw [HBB.out]; exact Nat.le_refl _))
          have can : c.can = (decide (c.dn ≤ 340) && decide (c.ln < 262)) := rfl
          have CAN := Lib.hid can
          obtain ⟨dn, hdn⟩ : ∃ dn, c.dn = dn := ⟨_, rfl⟩
          obtain ⟨ln, hln⟩ : ∃ ln, c.ln = ln := ⟨_, rfl⟩
          have HC : Hid (c.cs = #[.int .u16 dn, .bool c.dh, .int .u16 ln, .bool c.lh, .bool c.kept]) := Lib.hid (by rw [← hdn, ← hln]; rfl)
          rw [hdn] at e0 CAN
          rw [hln] at e2 CAN
          clear kb kb' hr can hdn hln U bg0 A2
          by_cases j1 : dn ≤ 340
          · by_cases j2 : ln < 262
            · have cn : c.can = true := by rw [CAN.out, decide_eq_true j1, decide_eq_true j2]; rfl
              have CN := Lib.hid cn
              clear cn CAN
              go_wp2_with fail
              go_ret
              refine ⟨by rw [CN.out]; rfl, ?_, ?_, ?_⟩
              · rw [CN.out]
                show Blk _ g _ c.cs
                rw [HC.out]
                exact ((((BG.out.set_ 0 _).set_ 1 _).set_ 2 _).set_ 3 _).set_ 4 _
              · exact ((((H3.out.newer (by exact n1) (by exact n2) _).newer (by exact n1) (by exact n2) _).newer (by exact n1) (by exact n2) _).newer (by exact n1) (by exact n2) _).newer (by exact n1) (by exact n2) _
              · have t := Upd2.ofUpd (v := g) U3.out
                refine t.trans ⟨rfl, rfl, rfl, by simp [World.setCell], fun i hi n m => ?_⟩
                rw [Below.heap_setCell _ _ _ _ m, Below.heap_setCell _ _ _ _ m, Below.heap_setCell _ _ _ _ m, Below.heap_setCell _ _ _ _ m, Below.heap_setCell _ _ _ _ m]
            · have cn : c.can = false := by rw [CAN.out, decide_eq_false j2, Bool.and_false]
              have CN := Lib.hid cn
              clear cn CAN
              go_wp2_with fail
              go_ret
              refine ⟨by rw [CN.out]; rfl, by rw [CN.out]; exact BG.out, H3.out, Upd2.ofUpd U3.out⟩
          · have cn : c.can = false := by rw [CAN.out, decide_eq_false j1, Bool.false_and]
            have CN := Lib.hid cn
            clear cn CAN
            go_wp2_with fail
            go_ret
            refine ⟨by rw [CN.out]; rfl, by rw [CN.out]; exact BG.out, H3.out, Upd2.ofUpd U3.out⟩
end
end Go.Proofs.Ytjhicjmfdcipmaa
