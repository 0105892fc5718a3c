/- ports: Load. -/
import Derived.Test.YtniagcbajjmopaaGreatPortsV
import Derived.Test.YtniagcbajjmopaaGreatSaveRs
import Derived.Test.YtniagcbajjmopaaGreatFill
import Derived.Deep.WholeRow
namespace Go.Proofs.YtniagcbajjmopaaGreat
open Go.RowKit
set_option linter.unusedVariables false
set_option linter.unusedSimpArgs false
set_option maxRecDepth 100000
/-! into: a value goes to its place. -/
theorem into_int (w : World) (g o : Nat) (x : Int) (u : Value) (c : w.cell? ⟨g, o, none⟩ = some u) (f : w.frozen? ⟨g, o, none⟩ = false) :
    Calls Tryz.prog 89 #[.pointer (some ⟨g, o, none⟩), .int .i64 x, .int .i64 0] w fun e w' => e = .returned (.int .i64 0) ∧ w' = w.setCell ⟨g, o, none⟩ (.int .i64 x) := by
  go_enter Tryz.func89, Tryz.ntmps89
  go_wp2_with fail
  go_ret
  exact ⟨rfl, rfl⟩
theorem into_uint16 (w : World) (g o : Nat) (x : Int) (u : Value) (c : w.cell? ⟨g, o, none⟩ = some u) (f : w.frozen? ⟨g, o, none⟩ = false) :
    Calls Tryz.prog 91 #[.pointer (some ⟨g, o, none⟩), .int .u16 x, .int .i64 0] w fun e w' => e = .returned (.int .i64 0) ∧ w' = w.setCell ⟨g, o, none⟩ (.int .u16 x) := by
  go_enter Tryz.func91, Tryz.ntmps91
  go_wp2_with fail
  go_ret
  exact ⟨rfl, rfl⟩
theorem into_uint8 (w : World) (g o : Nat) (x : Int) (u : Value) (c : w.cell? ⟨g, o, none⟩ = some u) (f : w.frozen? ⟨g, o, none⟩ = false) :
    Calls Tryz.prog 93 #[.pointer (some ⟨g, o, none⟩), .int .u8 x, .int .i64 0] w fun e w' => e = .returned (.int .i64 0) ∧ w' = w.setCell ⟨g, o, none⟩ (.int .u8 x) := by
  go_enter Tryz.func93, Tryz.ntmps93
  go_wp2_with fail
  go_ret
  exact ⟨rfl, rfl⟩
theorem into_bool (w : World) (g o : Nat) (x : Bool) (u : Value) (c : w.cell? ⟨g, o, none⟩ = some u) (f : w.frozen? ⟨g, o, none⟩ = false) :
    Calls Tryz.prog 95 #[.pointer (some ⟨g, o, none⟩), .bool x, .int .i64 0] w fun e w' => e = .returned (.int .i64 0) ∧ w' = w.setCell ⟨g, o, none⟩ (.bool x) := by
  go_enter Tryz.func95, Tryz.ntmps95
  go_wp2_with fail
  go_ret
  exact ⟨rfl, rfl⟩
def pN (s : Pt) : List (Nat × Value) := [(0, .int .i64 s.now), (1, .int .i64 s.busy)]
def pW (s : Pt) : List (Nat × Value) := [(5, .int .u16 s.dividend), (6, .int .u16 s.quotient), (7, .int .u16 s.product), (8, .int .u16 s.dot), (9, .int .u16 s.line), (13, .int .u16 s.say0), (14, .int .u16 s.say1), (15, .int .u16 s.auto0), (16, .int .u16 s.auto1), (17, .int .u16 s.shift0), (18, .int .u16 s.shift1)]
def pB (s : Pt) : List (Nat × Value) := [(2, .int .u8 s.control), (3, .int .u8 s.factor), (4, .int .u8 s.output)]
def pF (s : Pt) : List (Nat × Value) := [(10, .bool s.flagged), (11, .bool s.come), (12, .bool s.irq), (19, .bool s.held), (20, .bool s.fast), (21, .bool s.over)]
def cs1 (s : Pt) : Array Value := setAll Pt.zero.cs (pN s)
def cs2 (s : Pt) : Array Value := setAll (cs1 s) (pW s)
def cs3 (s : Pt) : Array Value := setAll (cs2 s) (pB s)
theorem cs1_size (s : Pt) : (cs1 s).size = 23 := by unfold cs1; rw [setAll_size]; rfl
theorem cs2_size (s : Pt) : (cs2 s).size = 23 := by unfold cs2; rw [setAll_size, cs1_size]
theorem cs3_size (s : Pt) : (cs3 s).size = 23 := by unfold cs3; rw [setAll_size, cs2_size]
theorem cs4_is (s : Pt) : setAll (cs3 s) (pF s) = ({ s with soon := 0 } : Pt).cs := by simp [cs3, cs2, cs1, setAll, pN, pW, pB, pF, Pt.cs, Pt.zero]
/-- Times that a number of 64 bits holds. -/
structure I64 (s : Pt) : Prop where
  n0 : -9223372036854775808 ≤ s.now
  n1 : s.now ≤ 9223372036854775807
  b0 : -9223372036854775808 ≤ s.busy
  b1 : s.busy ≤ 9223372036854775807
theorem num8 (x : Int) (h0 : -9223372036854775808 ≤ x) (h1 : x ≤ 9223372036854775807) : IntKind.i64.wrap (num (le 8 (x % 18446744073709551616))) = x := by
  rw [num_le 8 _ (by omega) (by rw [show (256 : Int) ^ 8 = 18446744073709551616 by decide]; omega), IntKind.wrap_i64]
  omega
theorem num2' (x : Int) (h0 : 0 ≤ x) (h1 : x ≤ 65535) : num (le 2 x) = x := num_le 2 x h0 (by rw [show (256 : Int) ^ 2 = 65536 by decide]; omega)
theorem num1' (x : Int) (h0 : 0 ≤ x) (h1 : x ≤ 255) : num (le 1 x) = x := num_le 1 x h0 (by rw [show (256 : Int) ^ 1 = 256 by decide]; omega)
theorem numsV_idx (g k o : Nat) (hk : k < 2) (ho : k = o) (w : World) : (Instr.index 117 (.agg #[at_ g 0, at_ g 1]) (.int .i64 k)).run Tryz.prog w = .ok (.pointer (some ⟨g, o, none⟩)) w := by
  subst ho
  rcases (show k = 0 ∨ k = 1 by omega) with rfl | rfl
  all_goals kernel_rfl
theorem flat_at (bss : List (List Int)) (k : Nat) (bs : List Int) (h : bss[k]? = some bs) : ((bss.flatten).drop ((bss.take k).flatten.length)).take bs.length = bs := by
  obtain ⟨hk, rfl⟩ := List.getElem?_eq_some_iff.1 h
  have e : bss.flatten = (bss.take k).flatten ++ (bss[k] ++ (bss.drop (k + 1)).flatten) := by
    rw [← List.flatten_cons, ← List.drop_eq_getElem_cons hk, ← List.flatten_append, List.take_append_drop]
  rw [e, List.drop_left, List.take_left]
theorem slice_at (s : Pt) (k : Nat) (x : List Int) (h : (pcs s)[k]? = some x) (o n : Nat) (ho : ((pcs s).take k).flatten.length = o) (hn : x.length = n) : ((portB s).drop o).take n = x := by
  have := flat_at (pcs s) k x h
  rwa [pcs_flat, ho, hn] at this
theorem flag_at (s : Pt) (k : Nat) (b : Bool) (h : (pcs s)[k]? = some (le 1 (if b then 1 else 0))) (o : Nat) (ho : ((pcs s).take k).flatten.length = o) : (portB s)[o]? = some (if b then 1 else 0) := by
  have := slice_at s k _ h o 1 ho (le_len _ _)
  have e : le 1 (if b then 1 else 0) = [if b then 1 else 0] := by cases b <;> rfl
  rw [e] at this
  have h2 : (((portB s).drop o).take 1)[0]? = some (if b then 1 else 0) := by rw [this]; rfl
  rwa [List.getElem?_take, if_pos (by omega), List.getElem?_drop, Nat.add_zero] at h2
def TakeP (W : World) (B gr bg cc : Nat) (s : Pt) (e : Ending) (w' : World) : Prop := e = .returned (.int .i64 0) ∧ Po w' B { s with soon := 0 } ∧ Rd w' gr bg cc 47 (portB s) ∧ Upd2 W gr B w'
section
variable {w : World} {B gr bg cc : Nat} {s : Pt}
set_option maxHeartbeats 32000000 in
theorem takePo_any (A : Po w B Pt.zero) (R : Rng s) (I : I64 s) (H : Rd w gr bg cc 0 (portB s)) (nBr : B ≠ gr) (nBb : B ≠ bg) :
    Calls Tryz.prog 68 #[poP B, rdP gr] w (TakeP w B gr bg cc s) := by
  have AA := Lib.hid A
  have HH := Lib.hid H
  have RR := Lib.hid R
  have II := Lib.hid I
  have PL := Lib.hid (portB_len s)
  clear A H R I
  go_enter Tryz.func68, Tryz.ntmps68
  go_wp2_with fail
  go_quiet (fail)
  go_wp2_with fail
  obtain ⟨W1, hW1⟩ : ∃ W1, W1 = w.drewN nq := ⟨_, rfl⟩
  have k1 : Blk W1 B 48 (setAll Pt.zero.cs ((pN s).take 0)) := by rw [hW1, setAll_zero]; exact AA.out.drewN _
  have h1 : Rd W1 gr bg cc (0 + 8 * 0) (portB s) := by rw [hW1]; exact HH.out.kept (belowN (Below.refl _ _) _)
  have u1 : Upd2 w gr B W1 := by rw [hW1]; exact Upd2.ofBelow (belowN (Below.refl _ _) _) _ _
  have KB := Lib.hid k1
  have H := Lib.hid h1
  have U := Lib.hid u1
  rw [← hW1]
  clear hW1 k1 h1 u1 AA HH
  go_loopw [32] (fun i wr => ∃ k : Nat, k ≤ 2 ∧ i = .int .i64 k ∧ Blk wr B 48 (setAll (Pt.zero.cs) ((pN s).take k)) ∧ Rd wr gr bg cc (0 + 8 * k) (portB s) ∧ Upd2 w gr B wr) (fun i _ => 2 - (intOf i).toNat)
  case atStart => exact ⟨0, by omega, rfl, KB.out, H.out, U.out⟩
  case round =>
    obtain ⟨k, hk, rfl, kb, hr, u⟩ := hrel
    have U := Lib.hid u
    clear u KB H
    by_cases hlt : k < 2
    · obtain ⟨o, x, hx⟩ : ∃ (o : Nat) (x : Int), (pN s)[k]? = some (o, .int .i64 x) ∧ ((portB s).drop (0 + 8 * k)).take 8 = n64 x ∧ -9223372036854775808 ≤ x ∧ x ≤ 9223372036854775807 ∧ o < 23 ∧ k = o := by
        rcases (show k = 0 ∨ k = 1 by omega) with rfl | rfl
        · exact ⟨0, s.now, rfl, slice_at s 0 _ rfl _ _ (by simp [pcs, n64_len, le_len]) (n64_len _), II.out.n0, II.out.n1, by omega, rfl⟩
        · exact ⟨1, s.busy, rfl, slice_at s 1 _ rfl _ _ (by simp [pcs, n64_len, le_len]) (n64_len _), II.out.b0, II.out.b1, by omega, rfl⟩
      obtain ⟨hx1, hx2, hx3, hx4, hx5, hx6⟩ := hx
      have hidx := numsV_idx B k o hlt hx6 wr
      have RW := Lib.hid (readNumber_any hr (by rw [PL.out]; omega))
      rw [hx2] at RW
      unfold n64 at RW
      rw [num8 x hx3 hx4] at RW
      have SN := Lib.hid (setAll_snoc (Pt.zero.cs) (pN s) k _ _ hx1)
      have KBk := Lib.hid kb
      clear hx1 hx2 hx3 hx4 kb hr
      clear hx6
      go_wp2_with fail
      refine RW.out.mono ?_
      rintro e w2 ⟨rfl, h2, u2⟩
      have kb2 := u2.blk KBk.out nBr
      obtain ⟨uo, hu⟩ := setAll_some (Pt.zero.cs) ((pN s).take k) o (by show _ < 23; exact hx5)
      have IN := Lib.hid (into_int w2 B o x uo ((kb2.cell _).trans hu) (kb2.frozen o))
      have KB2 := Lib.hid kb2
      have H2 := Lib.hid h2
      have U2 := Lib.hid (U.out.trans (Upd2.ofUpd (v := B) u2))
      clear h2 u2 kb2 hu RW KBk U
      go_wp2_with fail
      refine IN.out.mono ?_
      rintro e w3 ⟨rfl, rfl⟩
      clear IN
      go_wp2_with fail
      go_roundw
      case rel => first | exact ⟨k + 1, by omega, by go_num, by rw [SN.out]; exact KB2.out.set_ _ _, by rw [show 0 + 8 * (k + 1) = 0 + 8 * k + 8 by omega]; exact H2.out.newer nBr nBb _, U2.out.trans ⟨rfl, rfl, rfl, by simp [World.setCell], fun i hi n m => Below.heap_setCell _ _ _ _ m⟩⟩ | ((repeat apply Exists.intro); exact ⟨⟨k + 1, by omega, by go_num, by rw [SN.out]; exact KB2.out.set_ _ _, by rw [show 0 + 8 * (k + 1) = 0 + 8 * k + 8 by omega]; exact H2.out.newer nBr nBb _, U2.out.trans ⟨rfl, rfl, rfl, by simp [World.setCell], fun i hi n m => Below.heap_setCell _ _ _ _ m⟩⟩, rfl⟩)
      case measure => simp [intOf] <;> omega
    · have hke : k = 2 := by omega
      subst hke
      rw [show (pN s).take 2 = pN s from rfl] at kb
      have KB3 : Hid (Blk wr B 48 (cs1 s)) := Lib.hid (by unfold cs1; exact kb)
      have H3 : Hid (Rd wr gr bg cc 16 (portB s)) := Lib.hid hr
      clear kb hr hlt
      obtain ⟨w0, rfl⟩ : ∃ w0 : World, w0 = wr := ⟨_, rfl⟩
      go_wp2_with fail
      refine (wordsP_any _ B).mono ?_
      rintro e w4 ⟨rfl, hb4⟩
      have KB : Hid (Blk w4 B 48 (setAll (cs1 s) ((pW s).take 0))) := Lib.hid (by rw [setAll_zero]; exact KB3.out.kept hb4)
      have H : Hid (Rd w4 gr bg cc (16 + 2 * 0) (portB s)) := Lib.hid (H3.out.kept hb4)
      have U := Lib.hid (U.out.trans (Upd2.ofBelow hb4 gr B))
      clear hb4 KB3 H3
      go_wp2_with fail
      go_loopw [50] (fun i wr => ∃ k : Nat, k ≤ 11 ∧ i = .int .i64 k ∧ Blk wr B 48 (setAll (cs1 s) ((pW s).take k)) ∧ Rd wr gr bg cc (16 + 2 * k) (portB s) ∧ Upd2 w gr B wr) (fun i _ => 11 - (intOf i).toNat)
      case atStart => exact ⟨0, by omega, rfl, KB.out, H.out, U.out⟩
      case round =>
        obtain ⟨k, hk, rfl, kb, hr, u⟩ := hrel
        have U := Lib.hid u
        clear u KB H
        by_cases hlt : k < 11
        · obtain ⟨o, x, hx⟩ : ∃ (o : Nat) (x : Int), (pW s)[k]? = some (o, .int .u16 x) ∧ ((portB s).drop (16 + 2 * k)).take 2 = le 2 x ∧ 0 ≤ x ∧ x ≤ 65535 ∧ o < 23 ∧ wordsO.getD k 0 = o := by
            rcases (show k = 0 ∨ k = 1 ∨ k = 2 ∨ k = 3 ∨ k = 4 ∨ k = 5 ∨ k = 6 ∨ k = 7 ∨ k = 8 ∨ k = 9 ∨ k = 10 by omega) with rfl | rfl | rfl | rfl | rfl | rfl | rfl | rfl | rfl | rfl | rfl
            · exact ⟨5, s.dividend, rfl, slice_at s 2 _ rfl _ _ (by simp [pcs, n64_len, le_len]) (le_len _ _), (RR.out.w s.dividend (by simp [wVals])).1, (RR.out.w s.dividend (by simp [wVals])).2, by omega, rfl⟩
            · exact ⟨6, s.quotient, rfl, slice_at s 3 _ rfl _ _ (by simp [pcs, n64_len, le_len]) (le_len _ _), (RR.out.w s.quotient (by simp [wVals])).1, (RR.out.w s.quotient (by simp [wVals])).2, by omega, rfl⟩
            · exact ⟨7, s.product, rfl, slice_at s 4 _ rfl _ _ (by simp [pcs, n64_len, le_len]) (le_len _ _), (RR.out.w s.product (by simp [wVals])).1, (RR.out.w s.product (by simp [wVals])).2, by omega, rfl⟩
            · exact ⟨8, s.dot, rfl, slice_at s 5 _ rfl _ _ (by simp [pcs, n64_len, le_len]) (le_len _ _), (RR.out.w s.dot (by simp [wVals])).1, (RR.out.w s.dot (by simp [wVals])).2, by omega, rfl⟩
            · exact ⟨9, s.line, rfl, slice_at s 6 _ rfl _ _ (by simp [pcs, n64_len, le_len]) (le_len _ _), (RR.out.w s.line (by simp [wVals])).1, (RR.out.w s.line (by simp [wVals])).2, by omega, rfl⟩
            · exact ⟨13, s.say0, rfl, slice_at s 7 _ rfl _ _ (by simp [pcs, n64_len, le_len]) (le_len _ _), (RR.out.w s.say0 (by simp [wVals])).1, (RR.out.w s.say0 (by simp [wVals])).2, by omega, rfl⟩
            · exact ⟨14, s.say1, rfl, slice_at s 8 _ rfl _ _ (by simp [pcs, n64_len, le_len]) (le_len _ _), (RR.out.w s.say1 (by simp [wVals])).1, (RR.out.w s.say1 (by simp [wVals])).2, by omega, rfl⟩
            · exact ⟨15, s.auto0, rfl, slice_at s 9 _ rfl _ _ (by simp [pcs, n64_len, le_len]) (le_len _ _), (RR.out.w s.auto0 (by simp [wVals])).1, (RR.out.w s.auto0 (by simp [wVals])).2, by omega, rfl⟩
            · exact ⟨16, s.auto1, rfl, slice_at s 10 _ rfl _ _ (by simp [pcs, n64_len, le_len]) (le_len _ _), (RR.out.w s.auto1 (by simp [wVals])).1, (RR.out.w s.auto1 (by simp [wVals])).2, by omega, rfl⟩
            · exact ⟨17, s.shift0, rfl, slice_at s 11 _ rfl _ _ (by simp [pcs, n64_len, le_len]) (le_len _ _), (RR.out.w s.shift0 (by simp [wVals])).1, (RR.out.w s.shift0 (by simp [wVals])).2, by omega, rfl⟩
            · exact ⟨18, s.shift1, rfl, slice_at s 12 _ rfl _ _ (by simp [pcs, n64_len, le_len]) (le_len _ _), (RR.out.w s.shift1 (by simp [wVals])).1, (RR.out.w s.shift1 (by simp [wVals])).2, by omega, rfl⟩
          obtain ⟨hx1, hx2, hx3, hx4, hx5, hx6⟩ := hx
          have hidx := words_idx B k hlt wr
          rw [hx6] at hidx
          have RW := Lib.hid (readWord_any hr (by rw [PL.out]; omega))
          rw [hx2, num2' x hx3 hx4] at RW
          have SN := Lib.hid (setAll_snoc (cs1 s) (pW s) k _ _ hx1)
          have KBk := Lib.hid kb
          clear hx1 hx2 hx3 hx4 kb hr
          clear hx6
          go_wp2_with fail
          refine RW.out.mono ?_
          rintro e w2 ⟨rfl, h2, u2⟩
          have kb2 := u2.blk KBk.out nBr
          obtain ⟨uo, hu⟩ := setAll_some (cs1 s) ((pW s).take k) o (by rw [cs1_size]; exact hx5)
          have IN := Lib.hid (into_uint16 w2 B o x uo ((kb2.cell _).trans hu) (kb2.frozen o))
          have KB2 := Lib.hid kb2
          have H2 := Lib.hid h2
          have U2 := Lib.hid (U.out.trans (Upd2.ofUpd (v := B) u2))
          clear h2 u2 kb2 hu RW KBk U
          go_wp2_with fail
          refine IN.out.mono ?_
          rintro e w3 ⟨rfl, rfl⟩
          clear IN
          go_wp2_with fail
          go_roundw
          case rel => first | exact ⟨k + 1, by omega, by go_num, by rw [SN.out]; exact KB2.out.set_ _ _, by rw [show 16 + 2 * (k + 1) = 16 + 2 * k + 2 by omega]; exact H2.out.newer nBr nBb _, U2.out.trans ⟨rfl, rfl, rfl, by simp [World.setCell], fun i hi n m => Below.heap_setCell _ _ _ _ m⟩⟩ | ((repeat apply Exists.intro); exact ⟨⟨k + 1, by omega, by go_num, by rw [SN.out]; exact KB2.out.set_ _ _, by rw [show 16 + 2 * (k + 1) = 16 + 2 * k + 2 by omega]; exact H2.out.newer nBr nBb _, U2.out.trans ⟨rfl, rfl, rfl, by simp [World.setCell], fun i hi n m => Below.heap_setCell _ _ _ _ m⟩⟩, rfl⟩)
          case measure => simp [intOf] <;> omega
        · have hke : k = 11 := by omega
          subst hke
          rw [show (pW s).take 11 = pW s from rfl] at kb
          have KB3 : Hid (Blk wr B 48 (cs2 s)) := Lib.hid (by unfold cs2; exact kb)
          have H3 : Hid (Rd wr gr bg cc 38 (portB s)) := Lib.hid hr
          clear kb hr hlt
          obtain ⟨w0, rfl⟩ : ∃ w0 : World, w0 = wr := ⟨_, rfl⟩
          go_wp2_with fail
          refine (bytesP_any _ B).mono ?_
          rintro e w4 ⟨rfl, hb4⟩
          have KB : Hid (Blk w4 B 48 (setAll (cs2 s) ((pB s).take 0))) := Lib.hid (by rw [setAll_zero]; exact KB3.out.kept hb4)
          have H : Hid (Rd w4 gr bg cc (38 + 1 * 0) (portB s)) := Lib.hid (H3.out.kept hb4)
          have U := Lib.hid (U.out.trans (Upd2.ofBelow hb4 gr B))
          clear hb4 KB3 H3
          go_wp2_with fail
          go_loopw [68] (fun i wr => ∃ k : Nat, k ≤ 3 ∧ i = .int .i64 k ∧ Blk wr B 48 (setAll (cs2 s) ((pB s).take k)) ∧ Rd wr gr bg cc (38 + 1 * k) (portB s) ∧ Upd2 w gr B wr) (fun i _ => 3 - (intOf i).toNat)
          case atStart => exact ⟨0, by omega, rfl, KB.out, H.out, U.out⟩
          case round =>
            obtain ⟨k, hk, rfl, kb, hr, u⟩ := hrel
            have U := Lib.hid u
            clear u KB H
            by_cases hlt : k < 3
            · obtain ⟨o, x, hx⟩ : ∃ (o : Nat) (x : Int), (pB s)[k]? = some (o, .int .u8 x) ∧ ((portB s).drop (38 + 1 * k)).take 1 = le 1 x ∧ 0 ≤ x ∧ x ≤ 255 ∧ o < 23 ∧ bytesO.getD k 0 = o := by
                rcases (show k = 0 ∨ k = 1 ∨ k = 2 by omega) with rfl | rfl | rfl
                · exact ⟨2, s.control, rfl, slice_at s 13 _ rfl _ _ (by simp [pcs, n64_len, le_len]) (le_len _ _), (RR.out.b s.control (by simp [bVals])).1, (RR.out.b s.control (by simp [bVals])).2, by omega, rfl⟩
                · exact ⟨3, s.factor, rfl, slice_at s 14 _ rfl _ _ (by simp [pcs, n64_len, le_len]) (le_len _ _), (RR.out.b s.factor (by simp [bVals])).1, (RR.out.b s.factor (by simp [bVals])).2, by omega, rfl⟩
                · exact ⟨4, s.output, rfl, slice_at s 15 _ rfl _ _ (by simp [pcs, n64_len, le_len]) (le_len _ _), (RR.out.b s.output (by simp [bVals])).1, (RR.out.b s.output (by simp [bVals])).2, by omega, rfl⟩
              obtain ⟨hx1, hx2, hx3, hx4, hx5, hx6⟩ := hx
              have hidx := bytes_idx B k hlt wr
              rw [hx6] at hidx
              have RW := Lib.hid (readByte_any hr (by rw [PL.out]; omega))
              rw [hx2, num1' x hx3 hx4] at RW
              have SN := Lib.hid (setAll_snoc (cs2 s) (pB s) k _ _ hx1)
              have KBk := Lib.hid kb
              clear hx1 hx2 hx3 hx4 kb hr
              clear hx6
              go_wp2_with fail
              refine RW.out.mono ?_
              rintro e w2 ⟨rfl, h2, u2⟩
              have kb2 := u2.blk KBk.out nBr
              obtain ⟨uo, hu⟩ := setAll_some (cs2 s) ((pB s).take k) o (by rw [cs2_size]; exact hx5)
              have IN := Lib.hid (into_uint8 w2 B o x uo ((kb2.cell _).trans hu) (kb2.frozen o))
              have KB2 := Lib.hid kb2
              have H2 := Lib.hid h2
              have U2 := Lib.hid (U.out.trans (Upd2.ofUpd (v := B) u2))
              clear h2 u2 kb2 hu RW KBk U
              go_wp2_with fail
              refine IN.out.mono ?_
              rintro e w3 ⟨rfl, rfl⟩
              clear IN
              go_wp2_with fail
              go_roundw
              case rel => first | exact ⟨k + 1, by omega, by go_num, by rw [SN.out]; exact KB2.out.set_ _ _, by rw [show 38 + 1 * (k + 1) = 38 + 1 * k + 1 by omega]; exact H2.out.newer nBr nBb _, U2.out.trans ⟨rfl, rfl, rfl, by simp [World.setCell], fun i hi n m => Below.heap_setCell _ _ _ _ m⟩⟩ | ((repeat apply Exists.intro); exact ⟨⟨k + 1, by omega, by go_num, by rw [SN.out]; exact KB2.out.set_ _ _, by rw [show 38 + 1 * (k + 1) = 38 + 1 * k + 1 by omega]; exact H2.out.newer nBr nBb _, U2.out.trans ⟨rfl, rfl, rfl, by simp [World.setCell], fun i hi n m => Below.heap_setCell _ _ _ _ m⟩⟩, rfl⟩)
              case measure => simp [intOf] <;> omega
            · have hke : k = 3 := by omega
              subst hke
              rw [show (pB s).take 3 = pB s from rfl] at kb
              have KB3 : Hid (Blk wr B 48 (cs3 s)) := Lib.hid (by unfold cs3; exact kb)
              have H3 : Hid (Rd wr gr bg cc 41 (portB s)) := Lib.hid hr
              clear kb hr hlt
              obtain ⟨w0, rfl⟩ : ∃ w0 : World, w0 = wr := ⟨_, rfl⟩
              go_wp2_with fail
              refine (flagsP_any _ B).mono ?_
              rintro e w4 ⟨rfl, hb4⟩
              have KB : Hid (Blk w4 B 48 (setAll (cs3 s) ((pF s).take 0))) := Lib.hid (by rw [setAll_zero]; exact KB3.out.kept hb4)
              have H : Hid (Rd w4 gr bg cc (41 + 1 * 0) (portB s)) := Lib.hid (H3.out.kept hb4)
              have U := Lib.hid (U.out.trans (Upd2.ofBelow hb4 gr B))
              clear hb4 KB3 H3
              go_wp2_with fail
              go_loopw [86] (fun i wr => ∃ k : Nat, k ≤ 6 ∧ i = .int .i64 k ∧ Blk wr B 48 (setAll (cs3 s) ((pF s).take k)) ∧ Rd wr gr bg cc (41 + 1 * k) (portB s) ∧ Upd2 w gr B wr) (fun i _ => 6 - (intOf i).toNat)
              case atStart => exact ⟨0, by omega, rfl, KB.out, H.out, U.out⟩
              case round =>
                obtain ⟨k, hk, rfl, kb, hr, u⟩ := hrel
                have U := Lib.hid u
                clear u KB H
                by_cases hlt : k < 6
                · obtain ⟨o, x, hx⟩ : ∃ (o : Nat) (x : Bool), (pF s)[k]? = some (o, .bool x) ∧ (portB s)[41 + 1 * k]? = some (if x then 1 else 0) ∧ True ∧ True ∧ o < 23 ∧ flagsO.getD k 0 = o := by
                    rcases (show k = 0 ∨ k = 1 ∨ k = 2 ∨ k = 3 ∨ k = 4 ∨ k = 5 by omega) with rfl | rfl | rfl | rfl | rfl | rfl
                    · exact ⟨10, s.flagged, rfl, flag_at s 16 s.flagged rfl _ (by simp [pcs, n64_len, le_len]), trivial, trivial, by omega, rfl⟩
                    · exact ⟨11, s.come, rfl, flag_at s 17 s.come rfl _ (by simp [pcs, n64_len, le_len]), trivial, trivial, by omega, rfl⟩
                    · exact ⟨12, s.irq, rfl, flag_at s 18 s.irq rfl _ (by simp [pcs, n64_len, le_len]), trivial, trivial, by omega, rfl⟩
                    · exact ⟨19, s.held, rfl, flag_at s 19 s.held rfl _ (by simp [pcs, n64_len, le_len]), trivial, trivial, by omega, rfl⟩
                    · exact ⟨20, s.fast, rfl, flag_at s 20 s.fast rfl _ (by simp [pcs, n64_len, le_len]), trivial, trivial, by omega, rfl⟩
                    · exact ⟨21, s.over, rfl, flag_at s 21 s.over rfl _ (by simp [pcs, n64_len, le_len]), trivial, trivial, by omega, rfl⟩
                  obtain ⟨hx1, hx2, hx3, hx4, hx5, hx6⟩ := hx
                  have hidx := flags_idx B k hlt wr
                  rw [hx6] at hidx
                  have RW := Lib.hid (readFlag_any hr x hx2)
                  have SN := Lib.hid (setAll_snoc (cs3 s) (pF s) k _ _ hx1)
                  have KBk := Lib.hid kb
                  clear hx1 hx2 hx3 hx4 kb hr
                  clear hx6
                  go_wp2_with fail
                  refine RW.out.mono ?_
                  rintro e w2 ⟨rfl, h2, u2⟩
                  have kb2 := u2.blk KBk.out nBr
                  obtain ⟨uo, hu⟩ := setAll_some (cs3 s) ((pF s).take k) o (by rw [cs3_size]; exact hx5)
                  have IN := Lib.hid (into_bool w2 B o x uo ((kb2.cell _).trans hu) (kb2.frozen o))
                  have KB2 := Lib.hid kb2
                  have H2 := Lib.hid h2
                  have U2 := Lib.hid (U.out.trans (Upd2.ofUpd (v := B) u2))
                  clear h2 u2 kb2 hu RW KBk U
                  go_wp2_with fail
                  refine IN.out.mono ?_
                  rintro e w3 ⟨rfl, rfl⟩
                  clear IN
                  go_wp2_with fail
                  go_roundw
                  case rel => first | exact ⟨k + 1, by omega, by go_num, by rw [SN.out]; exact KB2.out.set_ _ _, by rw [show 41 + 1 * (k + 1) = 41 + 1 * k + 1 by omega]; exact H2.out.newer nBr nBb _, U2.out.trans ⟨rfl, rfl, rfl, by simp [World.setCell], fun i hi n m => Below.heap_setCell _ _ _ _ m⟩⟩ | ((repeat apply Exists.intro); exact ⟨⟨k + 1, by omega, by go_num, by rw [SN.out]; exact KB2.out.set_ _ _, by rw [show 41 + 1 * (k + 1) = 41 + 1 * k + 1 by omega]; exact H2.out.newer nBr nBb _, U2.out.trans ⟨rfl, rfl, rfl, by simp [World.setCell], fun i hi n m => Below.heap_setCell _ _ _ _ m⟩⟩, rfl⟩)
                  case measure => simp [intOf] <;> omega
                · have hke : k = 6 := by omega
                  subst hke
                  have KB5 : Hid (Po wr B { s with soon := 0 }) := Lib.hid (by rw [show (pF s).take 6 = pF s from rfl, cs4_is] at kb; exact kb)
                  have H5 : Hid (Rd wr gr bg cc 47 (portB s)) := Lib.hid hr
                  clear kb hr hlt
                  go_wp2_with fail
                  go_ret
                  exact ⟨rfl, KB5.out, H5.out, U.out⟩
end
end Go.Proofs.YtniagcbajjmopaaGreat
