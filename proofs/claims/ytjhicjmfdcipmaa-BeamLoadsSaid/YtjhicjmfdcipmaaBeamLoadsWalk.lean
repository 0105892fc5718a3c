/- BeamLoads: the walk. -/
import Derived.Test.YtjhicjmfdcipmaaBeamU
import Derived.Test.YtjhicjmfdcipmaaSaveJ
import Derived.Test.YtjhicjmfdcipmaaCells
import Derived.Test.YtjhicjmfdcipmaaKeep
import Derived.WalkKit
import Derived.ProofKit
import Derived.OpenShut
namespace Go.Proofs.Ytjhicjmfdcipmaa.beamLoads
open Go.RowKit
set_option linter.unusedVariables false
set_option linter.unusedSimpArgs false
set_option maxRecDepth 100000
/-- What a counter is after 5000 clocks. -/
def c5 : Ct := latchC 5000 Ct.zero
theorem c5_ok : c5.Ok := by constructor <;> decide
set_option maxHeartbeats 16000000 in
theorem main (c : Ct) (K : c.Ok) (w : World) : Calls Try.prog 8 #[.agg c.rs] w fun e w' => e = .returned (.bool true) ∧ Below w.heap.size w w' := by
  have AW := Lib.hid awake_true
  have KK := Lib.hid K
  have PU := Lib.hid (fun W => putCt_any W c K)
  obtain ⟨k0, k1, k2, k3⟩ := K
  have HRS : Hid (Value.agg c.rs = .agg #[.int .i64 c.dn, .int .i64 c.ln, .bool c.kept, .bool c.dh, .bool c.lh]) := Lib.hid rfl
  have can : c.can = (decide (c.dn ≤ 340) && decide (c.ln < 262)) := rfl
  have CAN := Lib.hid can
  have hne : ctB c ≠ [] := by intro e; have := ctB_len c; rw [e] at this; cases this
  have NE := Lib.hid hne
  rw [HRS.out]
  obtain ⟨B, hB⟩ : ∃ B, B = w.heap.size := ⟨_, rfl⟩
  have Q0 : Hid (∀ W, Below W.heap.size W W) := Lib.hid (fun W => Below.refl _ _)
  clear can hne
  go_enter Try.func8, Try.ntmps8
  try simp only [List.append_eq, List.cons_append, List.nil_append]
  go_upto_region 1 with (fail)
  obtain ⟨W2, hW⟩ : ∃ W2, W2 = w.alloc (.cells #[.int .i64 c.dn, .int .i64 c.ln, .bool c.kept, .bool c.dh, .bool c.lh] 37) := ⟨_, rfl⟩
  have cb : Below w.heap.size w W2 := by rw [hW]; exact belowA (Below.refl _ _) _
  have k : Blk W2 B 37 #[.int .i64 c.dn, .int .i64 c.ln, .bool c.kept, .bool c.dh, .bool c.lh] := by rw [hW, hB]; exact Blk.new _ _ _
  rw [← hW, ← hB]
  have CB := Lib.hid cb
  have KB := Lib.hid k
  have HBB := Lib.hid hB
  obtain ⟨e0, e1, e2, e3, e4⟩ : W2.cell? ⟨B, 0, none⟩ = some (.int .i64 c.dn) ∧ W2.cell? ⟨B, 1, none⟩ = some (.int .i64 c.ln) ∧ W2.cell? ⟨B, 2, none⟩ = some (.bool c.kept) ∧ W2.cell? ⟨B, 3, none⟩ = some (.bool c.dh) ∧ W2.cell? ⟨B, 4, none⟩ = some (.bool c.lh) := ⟨k.cell 0, k.cell 1, k.cell 2, k.cell 3, k.cell 4⟩
  clear hW hB cb k
  go_wp2_with fail
  rw [← HRS.out]
  refine (PU.out _).mono ?_
  rintro e w3 ⟨bv, rfl, hf, b3⟩
  have NR := Lib.hid (newR_any w3 bv (ctB c) _ hf NE.out (ctB_byts c) (by rw [ctB_len]; omega))
  have HF := Lib.hid hf
  have B3 := Lib.hid (CB.out.trans (b3.mono CB.out.size))
  have KB3 := Lib.hid (KB.out.kept b3)
  clear hf b3 PU KB e0 e1 e2 e3 e4
  go_wp2_with fail
  refine NR.out.mono ?_
  rintro e w4 ⟨gr, bg, cc, rfl, hgr, hbg, hr, b4⟩
  have HR := Lib.hid hr
  have D4 := Lib.hid b4
  have B4 := Lib.hid (B3.out.trans (b4.mono B3.out.size))
  have KB4 := Lib.hid (KB3.out.kept b4)
  have hBl : B < w3.heap.size := KB3.out.lt
  clear hr b4 KB3 NR
  go_wp2_with fail
  refine (newCt_any w4).mono ?_
  rintro e w5 ⟨g, rfl, hg, hx, b5⟩
  have X5 := Lib.hid hx
  have HR5 := Lib.hid (HR.out.kept b5)
  have B5 := Lib.hid (B4.out.trans (b5.mono B4.out.size))
  have KB5 := Lib.hid (KB4.out.kept b5)
  have D5 := Lib.hid (D4.out.trans (b5.mono D4.out.size))
  have hg3 : w3.heap.size ≤ g := Nat.le_trans D4.out.size hg
  have n1 : g ≠ gr := by have := HR.out.lt; omega
  have n2 : g ≠ bg := by have := HR.out.room; omega
  have n3 : g ≠ B := by have := KB4.out.lt; omega
  have n4 : B ≠ gr := by omega
  have hgw : w.heap.size ≤ g := Nat.le_trans B4.out.size hg
  have hgrw : w.heap.size ≤ gr := Nat.le_trans B3.out.size hgr
  clear hx b5 KB4 HR D4
  go_wp2_with fail
  refine (latch_yes X5.out 5000 (by omega) (by omega)).mono ?_
  rintro e w6 ⟨rfl, hx, u6⟩
  have X6 : Hid (Co w6 g c5) := Lib.hid hx
  have HR6 := Lib.hid (HR5.out.upd u6 n1 n2)
  have D6 := Lib.hid (u6.out D5.out hg3)
  have B6 := Lib.hid (u6.out B5.out hgw)
  have KB6 := Lib.hid (u6.blk KB5.out (fun e => n3 e.symm))
  clear hx u6 X5 HR5 B5 KB5 D5
  have SV := Lib.hid (savedCt_any X6.out c5_ok)
  go_wp2_with fail
  refine SV.out.mono ?_
  rintro e w7 ⟨sv, rfl, hs, b7⟩
  have HS7 := Lib.hid hs
  have X7 := Lib.hid (X6.out.kept b7)
  have HR7 := Lib.hid (HR6.out.kept b7)
  have D7 := Lib.hid (D6.out.trans (b7.mono D6.out.size))
  have B7 := Lib.hid (B6.out.trans (b7.mono B6.out.size))
  have KB7 := Lib.hid (KB6.out.kept b7)
  have g6 := X6.out.lt
  have gr6 := HR6.out.lt
  clear hs b7 SV X6 HR6 D6 B6 KB6
  have LD := Lib.hid (loadCt_any X7.out KK.out HR7.out n1 n2)
  go_wp2_with fail
  refine LD.out.mono ?_
  rintro e w8 ⟨rfl, hx, hr, u8⟩
  have X8 := Lib.hid hx
  have HS8 := Lib.hid (HS7.out.old u8.2.2.2.2 gr6 g6)
  have D8 : Hid (Below w3.heap.size w3 w8) := Lib.hid (D7.out.trans ⟨u8.1, u8.2.1, u8.2.2.1, u8.2.2.2.1, fun i hi => u8.2.2.2.2 i (Nat.lt_of_lt_of_le hi D7.out.size) (by omega) (by omega)⟩)
  have B8 : Hid (Below w.heap.size w w8) := Lib.hid (B7.out.trans ⟨u8.1, u8.2.1, u8.2.2.1, u8.2.2.2.1, fun i hi => u8.2.2.2.2 i (Nat.lt_of_lt_of_le hi B7.out.size) (by omega) (by omega)⟩)
  have KB8 : Hid (Blk w8 B 37 #[.int .i64 c.dn, .int .i64 c.ln, .bool c.kept, .bool c.dh, .bool c.lh]) := Lib.hid ((u8.2.2.2.2 B KB7.out.lt n4 (fun e => n3 e.symm)).trans KB7.out)
  have hl8 := KB8.out.lt
  have g8 : g < w8.heap.size := X8.out.lt
  clear hx hr u8 LD X7 HR7 D7 B7 KB7 HS7
  obtain ⟨ec, hec⟩ : ∃ ec : Int, (if c.can = true then (0 : Int) else 190) = ec := ⟨_, rfl⟩
  have HEC := Lib.hid hec
  rw [hec]
  clear hec
  go_wp2_with fail
  refine (latch_nil 1 w8).mono ?_
  rintro e w9 ⟨rfl, b9⟩
  have E9 := Lib.hid b9
  clear b9
  go_wp2_with fail
  refine (read_nil 60 0 w9).mono ?_
  rintro e w10 ⟨rfl, b10⟩
  have E10 := Lib.hid (E9.out.trans (b10.mono E9.out.size))
  clear b10 E9
  go_wp2_with fail
  refine (load_nil _ w10).mono ?_
  rintro e w11 ⟨rfl, b11⟩
  have e11 := E10.out.trans (b11.mono E10.out.size)
  have k11 := KB8.out.kept e11
  have e0 : w11.cell? ⟨B, 0, none⟩ = some (.int .i64 c.dn) := k11.cell 0
  have e1 : w11.cell? ⟨B, 1, none⟩ = some (.int .i64 c.ln) := k11.cell 1
  have X11 := Lib.hid (X8.out.kept e11)
  have HS11 := Lib.hid (HS8.out.kept e11)
  have D11 := Lib.hid (D8.out.trans (e11.mono (by have := D8.out.size; exact this)))
  have B11 := Lib.hid (B8.out.trans (e11.mono B8.out.size))
  have FD : Hid (FileAt W2.heap.size (fileOf (ctB c)) bv w11) := Lib.hid (HF.out.kept D11.out)
  clear b11 e11 k11 E10 X8 HS8 D8 B8 KB8 D11
  obtain ⟨dn, hdn⟩ : ∃ dn, c.dn = dn := ⟨_, rfl⟩
  obtain ⟨ln, hln⟩ : ∃ ln, c.ln = ln := ⟨_, rfl⟩
  rw [hdn] at e0 CAN
  rw [hln] at e1 CAN
  clear k0 k1 k2 k3 hdn hln
  have FINISH : Hid (∀ (cx : Ct) (cy : Ct), cx.Ok → Co w11 g cx → ∀ u W, FileAt W (fileOf (ctB cy)) u w11 → cx = cy → ∀ w12 v, FileAt w11.heap.size (fileOf (ctB cx)) v w12 → Below w11.heap.size w11 w12 → Calls Try.prog 28 #[v, u] w12 (Told w12 true)) := Lib.hid (by
    intro cx cy _ _ u W hu e w12 v hv hb
    subst e
    have := bytesF_any hv (hu.kept hb) (by rw [file_len, ctB_len]; omega) (by rw [file_len, ctB_len]; omega)
    rwa [decide_eq_true rfl] at this)
  by_cases j : dn ≤ 340 ∧ ln < 262
  · have cn : c.can = true := by rw [CAN.out, decide_eq_true j.1, decide_eq_true j.2]; rfl
    have hz : ec = 0 := by rw [← HEC.out, if_pos cn]
    subst hz
    obtain ⟨j1, j2⟩ := j
    have XX : Hid (Co w11 g c) := Lib.hid (by have := X11.out; rwa [if_pos cn] at this)
    have S2 := Lib.hid (savedCt_any XX.out KK.out)
    clear cn HEC CAN X11
    go_wp2_with fail
    refine S2.out.mono ?_
    rintro e w12 ⟨v2, rfl, hf2, b12⟩
    have BY := Lib.hid (FINISH.out c c KK.out XX.out _ _ FD.out rfl w12 v2 hf2 b12)
    have B12 := Lib.hid (B11.out.trans (b12.mono B11.out.size))
    clear hf2 b12 S2
    go_wp2_with fail
    refine BY.out.mono ?_
    rintro e w13 ⟨rfl, b13⟩
    have B13 := Lib.hid (B12.out.trans (b13.mono B12.out.size))
    clear b13 BY
    go_wp2_with fail
    refine (AW.out _).mono ?_
    rintro e w14 ⟨rfl, rfl⟩
    go_wp2_with fail
    go_ret
    exact ⟨rfl, belowA B13.out _⟩
  · have cn : c.can = false := by
      rw [CAN.out]
      by_cases j1 : dn ≤ 340
      · rw [decide_eq_false (show ¬ ln < 262 by omega), Bool.and_false]
      · rw [decide_eq_false j1, Bool.false_and]
    have hz : ec = 190 := by rw [← HEC.out, if_neg (by rw [cn]; decide)]
    subst hz
    have XX : Hid (Co w11 g c5) := Lib.hid (by have := X11.out; rwa [if_neg (by rw [cn]; decide)] at this)
    have S2 := Lib.hid (savedCt_any XX.out c5_ok)
    clear cn HEC CAN X11
    have hj : ¬ dn ≤ 340 ∨ (dn ≤ 340 ∧ ¬ ln < 262) := by omega
    clear j
    rcases hj with j1 | ⟨j1, j2⟩
    all_goals
      go_wp2_with fail
      refine S2.out.mono ?_
      rintro e w12 ⟨v2, rfl, hf2, b12⟩
      have BY := Lib.hid (FINISH.out c5 c5 c5_ok XX.out _ _ HS11.out rfl w12 v2 hf2 b12)
      have B12 := Lib.hid (B11.out.trans (b12.mono B11.out.size))
      clear hf2 b12 S2
      go_wp2_with fail
      refine BY.out.mono ?_
      rintro e w13 ⟨rfl, b13⟩
      have B13 := Lib.hid (B12.out.trans (b13.mono B12.out.size))
      clear b13 BY
      go_wp2_with fail
      refine (AW.out _).mono ?_
      rintro e w14 ⟨rfl, rfl⟩
      go_wp2_with fail
      go_ret
      exact ⟨rfl, belowA B13.out _⟩
set_option maxHeartbeats 2000000 in
theorem fewer (c : Ct) (h : c.dn < 0 ∨ (0 ≤ c.dn ∧ 65535 < c.dn) ∨ (0 ≤ c.dn ∧ c.dn ≤ 65535 ∧ c.ln < 0) ∨ (0 ≤ c.dn ∧ c.dn ≤ 65535 ∧ 0 ≤ c.ln ∧ 65535 < c.ln)) (w : World) :
    Calls Try.prog 8 #[.agg c.rs] w fun e w' => e = .returned (.bool true) ∧ Below w.heap.size w w' := by
  have AW := Lib.hid awake_true
  unfold Ct.rs
  rcases h with h | ⟨h, h2⟩ | ⟨h, h2, h3⟩ | ⟨h, h2, h3, h4⟩
  all_goals
    go_enter Try.func8, Try.ntmps8
    try simp only [List.append_eq, List.cons_append, List.nil_append]
    go_wp2_with fail
    refine (AW.out _).mono ?_
    rintro e w14 ⟨rfl, rfl⟩
    go_wp2_with fail
    go_ret
    exact ⟨rfl, belowA (belowA (Below.refl _ _) _) _⟩
theorem law (c : Ct) (w : World) : Calls Try.prog 8 #[.agg c.rs] w fun e w' => e = .returned (.bool true) ∧ Below w.heap.size w w' := by
  by_cases h : 0 ≤ c.dn ∧ c.dn ≤ 65535 ∧ 0 ≤ c.ln ∧ c.ln ≤ 65535
  · exact main c ⟨h.1, h.2.1, h.2.2.1, h.2.2.2⟩ w
  · exact fewer c (by omega) w
open Go.ChangeShapes Go.WideShapes Go.ChangeAt
theorem walk (H : Type) (enc : TypeId × Value → H) (W : World) (base : Nat) (v0 : Value) {d0 : DataW H} {p0 : List MemPlace}
    (k0 : Value.okWide Try.prog W .any base 37 v0) (h0 : DataW.Trod enc Try.prog W 0 (fun _ => true) true 37 v0 d0 p0) :
    Calls Try.prog 8 #[v0] W fun e w' => e = .returned (.bool true) ∧ Below W.heap.size W w' := by
  obtain ⟨cs, n, rfl, hlen, hf⟩ := openCells Try.underlying37 k0 h0
  have hl : cs.length = 5 := hlen.trans (by kernel_rfl)
  obtain ⟨y0, t0⟩ := hf 0 _ rfl
  obtain ⟨y1, t1⟩ := hf 1 _ rfl
  obtain ⟨y2, t2⟩ := hf 2 _ rfl
  obtain ⟨y3, t3⟩ := hf 3 _ rfl
  obtain ⟨y4, t4⟩ := hf 4 _ rfl
  obtain ⟨x0, e0, _⟩ := cellInt (o := 0) Try.underlying3 t0
  obtain ⟨x1, e1, _⟩ := cellInt (o := 1) Try.underlying3 t1
  obtain ⟨x2, e2⟩ := cellBool (o := 2) Try.underlying4 t2
  obtain ⟨x3, e3⟩ := cellBool (o := 3) Try.underlying4 t3
  obtain ⟨x4, e4⟩ := cellBool (o := 4) Try.underlying4 t4
  match cs, hl, e0, e1, e2, e3, e4 with
  | [a0, a1, a2, a3, a4], _, e0, e1, e2, e3, e4 =>
    simp at e0 e1 e2 e3 e4
    subst e0 e1 e2 e3 e4
    exact law ⟨x0, x1, x2, x3, x4⟩ W
end Go.Proofs.Ytjhicjmfdcipmaa.beamLoads
