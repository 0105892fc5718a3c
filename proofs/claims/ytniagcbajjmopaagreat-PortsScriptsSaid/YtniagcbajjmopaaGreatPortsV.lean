/- ports: put: the document's unit as bytes. -/
import Derived.Test.YtniagcbajjmopaaGreatPortsT
namespace Go.Proofs.YtniagcbajjmopaaGreat
open Go.RowKit
set_option linter.unusedVariables false
set_option linter.unusedSimpArgs false
set_option maxRecDepth 100000
/-- The document's unit. -/
def Pt.rs (s : Pt) : Array Value := #[.int .i64 s.now, .int .i64 s.busy, .int .u8 s.control, .int .u8 s.factor, .int .u8 s.output, .int .u16 s.dividend, .int .u16 s.quotient, .int .u16 s.product, .int .u16 s.dot, .int .u16 s.line, .bool s.flagged, .bool s.come, .bool s.irq, .int .u16 s.say0, .int .u16 s.say1, .int .u16 s.auto0, .int .u16 s.auto1, .int .u16 s.shift0, .int .u16 s.shift1, .bool s.held, .bool s.fast, .bool s.over]
def pcs (s : Pt) : List (List Int) := [n64 s.now, n64 s.busy, le 2 s.dividend, le 2 s.quotient, le 2 s.product, le 2 s.dot, le 2 s.line, le 2 s.say0, le 2 s.say1, le 2 s.auto0, le 2 s.auto1, le 2 s.shift0, le 2 s.shift1, le 1 s.control, le 1 s.factor, le 1 s.output, le 1 (if s.flagged then 1 else 0), le 1 (if s.come then 1 else 0), le 1 (if s.irq then 1 else 0), le 1 (if s.held then 1 else 0), le 1 (if s.fast then 1 else 0), le 1 (if s.over then 1 else 0)]
theorem pcs_flat (s : Pt) : (pcs s).flatten = portB s := by simp [pcs, portB, wB, bB, fB, wVals, bVals, fVals]
theorem pcs_len (s : Pt) (k : Nat) : ((pcs s).take k).flatten.length ≤ 47 := by rw [← portB_len s, ← pcs_flat]; exact flat_le _ _
set_option maxHeartbeats 16000000 in
theorem putPo_any (w : World) (s : Pt) (R0 : Rng s) : Calls Tryz.prog 20 #[.agg s.rs] w (fun e w' => ∃ v, e = .returned v ∧ FileAt w.heap.size (fileOf (portB s)) v w' ∧ Below w.heap.size w w') := by
  have R := Lib.hid R0
  have PF := Lib.hid (pcs_flat s)
  have PL := Lib.hid (pcs_len s)
  have HRS : Hid (s.rs = #[.int .i64 s.now, .int .i64 s.busy, .int .u8 s.control, .int .u8 s.factor, .int .u8 s.output, .int .u16 s.dividend, .int .u16 s.quotient, .int .u16 s.product, .int .u16 s.dot, .int .u16 s.line, .bool s.flagged, .bool s.come, .bool s.irq, .int .u16 s.say0, .int .u16 s.say1, .int .u16 s.auto0, .int .u16 s.auto1, .int .u16 s.shift0, .int .u16 s.shift1, .bool s.held, .bool s.fast, .bool s.over]) := Lib.hid rfl
  have hn : portB s ≠ [] := by intro e; have := portB_len s; rw [e] at this; cases this
  have NE := Lib.hid hn
  have LE := Lib.hid (portB_len s)
  rw [HRS.out]
  clear R0 hn
  go_enter Tryz.func20, Tryz.ntmps20
  try simp only [List.append_eq, List.cons_append, List.nil_append]
  go_upto_region 1 with (fail)
  obtain ⟨W2, hW⟩ : ∃ W2, W2 = w.alloc (.cells #[.int .i64 s.now, .int .i64 s.busy, .int .u8 s.control, .int .u8 s.factor, .int .u8 s.output, .int .u16 s.dividend, .int .u16 s.quotient, .int .u16 s.product, .int .u16 s.dot, .int .u16 s.line, .bool s.flagged, .bool s.come, .bool s.irq, .int .u16 s.say0, .int .u16 s.say1, .int .u16 s.auto0, .int .u16 s.auto1, .int .u16 s.shift0, .int .u16 s.shift1, .bool s.held, .bool s.fast, .bool s.over] 28) := ⟨_, rfl⟩
  obtain ⟨B, hB⟩ : ∃ B, B = w.heap.size := ⟨_, rfl⟩
  have cb : Below w.heap.size w W2 := by rw [hW]; exact belowA (Below.refl _ _) _
  have k : Blk W2 B 28 s.rs := by rw [hW, hB]; exact Blk.new _ _ _
  have hsz : W2.heap.size = B + 1 := by rw [hW, hB]; simp
  rw [← hW, ← hB]
  have CB2 := Lib.hid cb
  have KB := Lib.hid k
  clear hW hB cb k HRS
  go_wp2_with fail
  refine (newW_any W2).mono ?_
  rintro e w0 ⟨gw, rfl, hg, h0, b0⟩
  have n1 : B ≠ gw := by omega
  have n2 : (Value.slice none 0 0).ownBlock ≠ some B := by simp [Value.ownBlock]
  have AA := Lib.hid (KB.out.kept b0)
  have B0 := Lib.hid (CB2.out.trans (b0.mono CB2.out.size))
  have HG := Lib.hid (Nat.le_trans CB2.out.size hg)
  have S0 : Hid (WStep w0 gw (.slice none 0 0) w0 (.slice none 0 0)) := Lib.hid (WStep.refl _ _ _)
  have H0 : Hid (Wr w0 gw (.slice none 0 0) ((pcs s).take 0).flatten) := Lib.hid h0
  clear h0 b0 KB
  have c0 : w0.cell? ⟨B, 0, none⟩ = some (.int .i64 s.now) := (S0.out.blk AA.out n1 n2).cell 0
  have N0 := Lib.hid (number_any H0.out s.now (by have := PL.out 0; omega))
  go_wp2_with fail
  refine N0.out.mono ?_
  rintro e w1 ⟨rfl, b1, h1, s1⟩
  have S1 := Lib.hid (S0.out.trans s1)
  have H1 : Hid (Wr w1 gw b1 ((pcs s).take 1).flatten) := Lib.hid (by rw [flat_take (pcs s) 0 (n64 s.now) rfl]; exact h1)
  clear h1 s1 N0 c0 S0 H0
  have c1 : w1.cell? ⟨B, 1, none⟩ = some (.int .i64 s.busy) := (S1.out.blk AA.out n1 n2).cell 1
  have N1 := Lib.hid (number_any H1.out s.busy (by have := PL.out 1; omega))
  go_wp2_with fail
  refine N1.out.mono ?_
  rintro e w2 ⟨rfl, b2, h2, s2⟩
  have S2 := Lib.hid (S1.out.trans s2)
  have H2 : Hid (Wr w2 gw b2 ((pcs s).take 2).flatten) := Lib.hid (by rw [flat_take (pcs s) 1 (n64 s.busy) rfl]; exact h2)
  clear h2 s2 N1 c1 S1 H1
  have c2 : w2.cell? ⟨B, 5, none⟩ = some (.int .u16 s.dividend) := (S2.out.blk AA.out n1 n2).cell 5
  have N2 := Lib.hid (word_any H2.out s.dividend (R.out.w s.dividend (by simp [wVals])).1 (R.out.w s.dividend (by simp [wVals])).2 (by have := PL.out 2; omega))
  go_wp2_with fail
  refine N2.out.mono ?_
  rintro e w3 ⟨rfl, b3, h3, s3⟩
  have S3 := Lib.hid (S2.out.trans s3)
  have H3 : Hid (Wr w3 gw b3 ((pcs s).take 3).flatten) := Lib.hid (by rw [flat_take (pcs s) 2 (le 2 s.dividend) rfl]; exact h3)
  clear h3 s3 N2 c2 S2 H2
  have c3 : w3.cell? ⟨B, 6, none⟩ = some (.int .u16 s.quotient) := (S3.out.blk AA.out n1 n2).cell 6
  have N3 := Lib.hid (word_any H3.out s.quotient (R.out.w s.quotient (by simp [wVals])).1 (R.out.w s.quotient (by simp [wVals])).2 (by have := PL.out 3; omega))
  go_wp2_with fail
  refine N3.out.mono ?_
  rintro e w4 ⟨rfl, b4, h4, s4⟩
  have S4 := Lib.hid (S3.out.trans s4)
  have H4 : Hid (Wr w4 gw b4 ((pcs s).take 4).flatten) := Lib.hid (by rw [flat_take (pcs s) 3 (le 2 s.quotient) rfl]; exact h4)
  clear h4 s4 N3 c3 S3 H3
  have c4 : w4.cell? ⟨B, 7, none⟩ = some (.int .u16 s.product) := (S4.out.blk AA.out n1 n2).cell 7
  have N4 := Lib.hid (word_any H4.out s.product (R.out.w s.product (by simp [wVals])).1 (R.out.w s.product (by simp [wVals])).2 (by have := PL.out 4; omega))
  go_wp2_with fail
  refine N4.out.mono ?_
  rintro e w5 ⟨rfl, b5, h5, s5⟩
  have S5 := Lib.hid (S4.out.trans s5)
  have H5 : Hid (Wr w5 gw b5 ((pcs s).take 5).flatten) := Lib.hid (by rw [flat_take (pcs s) 4 (le 2 s.product) rfl]; exact h5)
  clear h5 s5 N4 c4 S4 H4
  have c5 : w5.cell? ⟨B, 8, none⟩ = some (.int .u16 s.dot) := (S5.out.blk AA.out n1 n2).cell 8
  have N5 := Lib.hid (word_any H5.out s.dot (R.out.w s.dot (by simp [wVals])).1 (R.out.w s.dot (by simp [wVals])).2 (by have := PL.out 5; omega))
  go_wp2_with fail
  refine N5.out.mono ?_
  rintro e w6 ⟨rfl, b6, h6, s6⟩
  have S6 := Lib.hid (S5.out.trans s6)
  have H6 : Hid (Wr w6 gw b6 ((pcs s).take 6).flatten) := Lib.hid (by rw [flat_take (pcs s) 5 (le 2 s.dot) rfl]; exact h6)
  clear h6 s6 N5 c5 S5 H5
  have c6 : w6.cell? ⟨B, 9, none⟩ = some (.int .u16 s.line) := (S6.out.blk AA.out n1 n2).cell 9
  have N6 := Lib.hid (word_any H6.out s.line (R.out.w s.line (by simp [wVals])).1 (R.out.w s.line (by simp [wVals])).2 (by have := PL.out 6; omega))
  go_wp2_with fail
  refine N6.out.mono ?_
  rintro e w7 ⟨rfl, b7, h7, s7⟩
  have S7 := Lib.hid (S6.out.trans s7)
  have H7 : Hid (Wr w7 gw b7 ((pcs s).take 7).flatten) := Lib.hid (by rw [flat_take (pcs s) 6 (le 2 s.line) rfl]; exact h7)
  clear h7 s7 N6 c6 S6 H6
  have c7 : w7.cell? ⟨B, 13, none⟩ = some (.int .u16 s.say0) := (S7.out.blk AA.out n1 n2).cell 13
  have N7 := Lib.hid (word_any H7.out s.say0 (R.out.w s.say0 (by simp [wVals])).1 (R.out.w s.say0 (by simp [wVals])).2 (by have := PL.out 7; omega))
  go_wp2_with fail
  refine N7.out.mono ?_
  rintro e w8 ⟨rfl, b8, h8, s8⟩
  have S8 := Lib.hid (S7.out.trans s8)
  have H8 : Hid (Wr w8 gw b8 ((pcs s).take 8).flatten) := Lib.hid (by rw [flat_take (pcs s) 7 (le 2 s.say0) rfl]; exact h8)
  clear h8 s8 N7 c7 S7 H7
  have c8 : w8.cell? ⟨B, 14, none⟩ = some (.int .u16 s.say1) := (S8.out.blk AA.out n1 n2).cell 14
  have N8 := Lib.hid (word_any H8.out s.say1 (R.out.w s.say1 (by simp [wVals])).1 (R.out.w s.say1 (by simp [wVals])).2 (by have := PL.out 8; omega))
  go_wp2_with fail
  refine N8.out.mono ?_
  rintro e w9 ⟨rfl, b9, h9, s9⟩
  have S9 := Lib.hid (S8.out.trans s9)
  have H9 : Hid (Wr w9 gw b9 ((pcs s).take 9).flatten) := Lib.hid (by rw [flat_take (pcs s) 8 (le 2 s.say1) rfl]; exact h9)
  clear h9 s9 N8 c8 S8 H8
  have c9 : w9.cell? ⟨B, 15, none⟩ = some (.int .u16 s.auto0) := (S9.out.blk AA.out n1 n2).cell 15
  have N9 := Lib.hid (word_any H9.out s.auto0 (R.out.w s.auto0 (by simp [wVals])).1 (R.out.w s.auto0 (by simp [wVals])).2 (by have := PL.out 9; omega))
  go_wp2_with fail
  refine N9.out.mono ?_
  rintro e w10 ⟨rfl, b10, h10, s10⟩
  have S10 := Lib.hid (S9.out.trans s10)
  have H10 : Hid (Wr w10 gw b10 ((pcs s).take 10).flatten) := Lib.hid (by rw [flat_take (pcs s) 9 (le 2 s.auto0) rfl]; exact h10)
  clear h10 s10 N9 c9 S9 H9
  have c10 : w10.cell? ⟨B, 16, none⟩ = some (.int .u16 s.auto1) := (S10.out.blk AA.out n1 n2).cell 16
  have N10 := Lib.hid (word_any H10.out s.auto1 (R.out.w s.auto1 (by simp [wVals])).1 (R.out.w s.auto1 (by simp [wVals])).2 (by have := PL.out 10; omega))
  go_wp2_with fail
  refine N10.out.mono ?_
  rintro e w11 ⟨rfl, b11, h11, s11⟩
  have S11 := Lib.hid (S10.out.trans s11)
  have H11 : Hid (Wr w11 gw b11 ((pcs s).take 11).flatten) := Lib.hid (by rw [flat_take (pcs s) 10 (le 2 s.auto1) rfl]; exact h11)
  clear h11 s11 N10 c10 S10 H10
  have c11 : w11.cell? ⟨B, 17, none⟩ = some (.int .u16 s.shift0) := (S11.out.blk AA.out n1 n2).cell 17
  have N11 := Lib.hid (word_any H11.out s.shift0 (R.out.w s.shift0 (by simp [wVals])).1 (R.out.w s.shift0 (by simp [wVals])).2 (by have := PL.out 11; omega))
  go_wp2_with fail
  refine N11.out.mono ?_
  rintro e w12 ⟨rfl, b12, h12, s12⟩
  have S12 := Lib.hid (S11.out.trans s12)
  have H12 : Hid (Wr w12 gw b12 ((pcs s).take 12).flatten) := Lib.hid (by rw [flat_take (pcs s) 11 (le 2 s.shift0) rfl]; exact h12)
  clear h12 s12 N11 c11 S11 H11
  have c12 : w12.cell? ⟨B, 18, none⟩ = some (.int .u16 s.shift1) := (S12.out.blk AA.out n1 n2).cell 18
  have N12 := Lib.hid (word_any H12.out s.shift1 (R.out.w s.shift1 (by simp [wVals])).1 (R.out.w s.shift1 (by simp [wVals])).2 (by have := PL.out 12; omega))
  go_wp2_with fail
  refine N12.out.mono ?_
  rintro e w13 ⟨rfl, b13, h13, s13⟩
  have S13 := Lib.hid (S12.out.trans s13)
  have H13 : Hid (Wr w13 gw b13 ((pcs s).take 13).flatten) := Lib.hid (by rw [flat_take (pcs s) 12 (le 2 s.shift1) rfl]; exact h13)
  clear h13 s13 N12 c12 S12 H12
  have c13 : w13.cell? ⟨B, 2, none⟩ = some (.int .u8 s.control) := (S13.out.blk AA.out n1 n2).cell 2
  have N13 := Lib.hid (byte_any H13.out s.control (R.out.b s.control (by simp [bVals])).1 (R.out.b s.control (by simp [bVals])).2 (by have := PL.out 13; omega))
  go_wp2_with fail
  refine N13.out.mono ?_
  rintro e w14 ⟨rfl, b14, h14, s14⟩
  have S14 := Lib.hid (S13.out.trans s14)
  have H14 : Hid (Wr w14 gw b14 ((pcs s).take 14).flatten) := Lib.hid (by rw [flat_take (pcs s) 13 (le 1 s.control) rfl]; exact h14)
  clear h14 s14 N13 c13 S13 H13
  have c14 : w14.cell? ⟨B, 3, none⟩ = some (.int .u8 s.factor) := (S14.out.blk AA.out n1 n2).cell 3
  have N14 := Lib.hid (byte_any H14.out s.factor (R.out.b s.factor (by simp [bVals])).1 (R.out.b s.factor (by simp [bVals])).2 (by have := PL.out 14; omega))
  go_wp2_with fail
  refine N14.out.mono ?_
  rintro e w15 ⟨rfl, b15, h15, s15⟩
  have S15 := Lib.hid (S14.out.trans s15)
  have H15 : Hid (Wr w15 gw b15 ((pcs s).take 15).flatten) := Lib.hid (by rw [flat_take (pcs s) 14 (le 1 s.factor) rfl]; exact h15)
  clear h15 s15 N14 c14 S14 H14
  have c15 : w15.cell? ⟨B, 4, none⟩ = some (.int .u8 s.output) := (S15.out.blk AA.out n1 n2).cell 4
  have N15 := Lib.hid (byte_any H15.out s.output (R.out.b s.output (by simp [bVals])).1 (R.out.b s.output (by simp [bVals])).2 (by have := PL.out 15; omega))
  go_wp2_with fail
  refine N15.out.mono ?_
  rintro e w16 ⟨rfl, b16, h16, s16⟩
  have S16 := Lib.hid (S15.out.trans s16)
  have H16 : Hid (Wr w16 gw b16 ((pcs s).take 16).flatten) := Lib.hid (by rw [flat_take (pcs s) 15 (le 1 s.output) rfl]; exact h16)
  clear h16 s16 N15 c15 S15 H15
  have c16 : w16.cell? ⟨B, 10, none⟩ = some (.bool s.flagged) := (S16.out.blk AA.out n1 n2).cell 10
  have N16 := Lib.hid (flag_any H16.out s.flagged (by have := PL.out 16; omega))
  go_wp2_with fail
  refine N16.out.mono ?_
  rintro e w17 ⟨rfl, b17, h17, s17⟩
  have S17 := Lib.hid (S16.out.trans s17)
  have H17 : Hid (Wr w17 gw b17 ((pcs s).take 17).flatten) := Lib.hid (by rw [flat_take (pcs s) 16 (le 1 (if s.flagged then 1 else 0)) rfl]; exact h17)
  clear h17 s17 N16 c16 S16 H16
  have c17 : w17.cell? ⟨B, 11, none⟩ = some (.bool s.come) := (S17.out.blk AA.out n1 n2).cell 11
  have N17 := Lib.hid (flag_any H17.out s.come (by have := PL.out 17; omega))
  go_wp2_with fail
  refine N17.out.mono ?_
  rintro e w18 ⟨rfl, b18, h18, s18⟩
  have S18 := Lib.hid (S17.out.trans s18)
  have H18 : Hid (Wr w18 gw b18 ((pcs s).take 18).flatten) := Lib.hid (by rw [flat_take (pcs s) 17 (le 1 (if s.come then 1 else 0)) rfl]; exact h18)
  clear h18 s18 N17 c17 S17 H17
  have c18 : w18.cell? ⟨B, 12, none⟩ = some (.bool s.irq) := (S18.out.blk AA.out n1 n2).cell 12
  have N18 := Lib.hid (flag_any H18.out s.irq (by have := PL.out 18; omega))
  go_wp2_with fail
  refine N18.out.mono ?_
  rintro e w19 ⟨rfl, b19, h19, s19⟩
  have S19 := Lib.hid (S18.out.trans s19)
  have H19 : Hid (Wr w19 gw b19 ((pcs s).take 19).flatten) := Lib.hid (by rw [flat_take (pcs s) 18 (le 1 (if s.irq then 1 else 0)) rfl]; exact h19)
  clear h19 s19 N18 c18 S18 H18
  have c19 : w19.cell? ⟨B, 19, none⟩ = some (.bool s.held) := (S19.out.blk AA.out n1 n2).cell 19
  have N19 := Lib.hid (flag_any H19.out s.held (by have := PL.out 19; omega))
  go_wp2_with fail
  refine N19.out.mono ?_
  rintro e w20 ⟨rfl, b20, h20, s20⟩
  have S20 := Lib.hid (S19.out.trans s20)
  have H20 : Hid (Wr w20 gw b20 ((pcs s).take 20).flatten) := Lib.hid (by rw [flat_take (pcs s) 19 (le 1 (if s.held then 1 else 0)) rfl]; exact h20)
  clear h20 s20 N19 c19 S19 H19
  have c20 : w20.cell? ⟨B, 20, none⟩ = some (.bool s.fast) := (S20.out.blk AA.out n1 n2).cell 20
  have N20 := Lib.hid (flag_any H20.out s.fast (by have := PL.out 20; omega))
  go_wp2_with fail
  refine N20.out.mono ?_
  rintro e w21 ⟨rfl, b21, h21, s21⟩
  have S21 := Lib.hid (S20.out.trans s21)
  have H21 : Hid (Wr w21 gw b21 ((pcs s).take 21).flatten) := Lib.hid (by rw [flat_take (pcs s) 20 (le 1 (if s.fast then 1 else 0)) rfl]; exact h21)
  clear h21 s21 N20 c20 S20 H20
  have c21 : w21.cell? ⟨B, 21, none⟩ = some (.bool s.over) := (S21.out.blk AA.out n1 n2).cell 21
  have N21 := Lib.hid (flag_any H21.out s.over (by have := PL.out 21; omega))
  go_wp2_with fail
  refine N21.out.mono ?_
  rintro e w22 ⟨rfl, b22, h22, s22⟩
  have S22 := Lib.hid (S21.out.trans s22)
  have H22 : Hid (Wr w22 gw b22 ((pcs s).take 22).flatten) := Lib.hid (by rw [flat_take (pcs s) 21 (le 1 (if s.over then 1 else 0)) rfl]; exact h22)
  clear h22 s22 N21 c21 S21 H21
  obtain ⟨b', _⟩ := S22.out.out B0.out HG.out (fun b h => by simp [Value.ownBlock] at h)
  have B' := Lib.hid b'
  have h' : Wr w22 gw b22 (portB s) := by rw [← PF.out]; exact H22.out
  have DN := Lib.hid (done_any h' NE.out (portB_byts s) (by rw [LE.out]; omega))
  clear h' b' S22 H22
  go_wp2_with fail
  refine DN.out.mono ?_
  rintro e w' ⟨v, rfl, hf, b7⟩
  have HF := Lib.hid (hf.weak B'.out.size)
  have B7 := Lib.hid (B'.out.trans (b7.mono B'.out.size))
  clear hf b7 DN
  go_wp2_with fail
  go_ret
  exact ⟨v, rfl, HF.out, B7.out⟩
end Go.Proofs.YtniagcbajjmopaaGreat
