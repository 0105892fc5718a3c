/- ports: Save; a unit's bytes. -/
import Derived.Test.YtniagcbajjmopaaGreatPortsS
import Derived.Test.YtniagcbajjmopaaGreatSaveFs
import Derived.Test.YtniagcbajjmopaaGreatSaveI
namespace Go.Proofs.YtniagcbajjmopaaGreat
open Go.RowKit
set_option linter.unusedVariables false
set_option linter.unusedSimpArgs false
set_option maxRecDepth 100000
def wVals (s : Pt) : List Int := [s.dividend, s.quotient, s.product, s.dot, s.line, s.say0, s.say1, s.auto0, s.auto1, s.shift0, s.shift1]
def bVals (s : Pt) : List Int := [s.control, s.factor, s.output]
def fVals (s : Pt) : List Bool := [s.flagged, s.come, s.irq, s.held, s.fast, s.over]
def wB (l : List Int) : List Int := (l.map (le 2)).flatten
def bB (l : List Int) : List Int := (l.map (le 1)).flatten
def fB (l : List Bool) : List Int := (l.map fun b => le 1 (if b then 1 else 0)).flatten
def n64 (x : Int) : List Int := le 8 (x % 18446744073709551616)
/-- A unit's bytes. -/
def portB (s : Pt) : List Int := n64 s.now ++ n64 s.busy ++ wB (wVals s) ++ bB (bVals s) ++ fB (fVals s)
theorem wVals_len (s : Pt) : (wVals s).length = 11 := rfl
theorem bVals_len (s : Pt) : (bVals s).length = 3 := rfl
theorem fVals_len (s : Pt) : (fVals s).length = 6 := rfl
theorem wB_len (l : List Int) : (wB l).length = 2 * l.length := by
  induction l with
  | nil => rfl
  | cons x l ih => simp only [wB, List.map_cons, List.flatten_cons, List.length_append, le_len, List.length_cons] at ih ⊢; omega
theorem bB_len (l : List Int) : (bB l).length = 1 * l.length := by
  induction l with
  | nil => rfl
  | cons x l ih => simp only [bB, List.map_cons, List.flatten_cons, List.length_append, le_len, List.length_cons] at ih ⊢; omega
theorem fB_len (l : List Bool) : (fB l).length = 1 * l.length := by
  induction l with
  | nil => rfl
  | cons x l ih => simp only [fB, List.map_cons, List.flatten_cons, List.length_append, le_len, List.length_cons] at ih ⊢; omega
theorem n64_len (x : Int) : (n64 x).length = 8 := le_len _ _
theorem portB_len (s : Pt) : (portB s).length = 47 := by simp [portB, n64_len, wB_len, bB_len, fB_len, wVals, bVals, fVals]
theorem fl_wB (l : List Int) (k : Nat) (h : k < l.length) : wB (l.take (k + 1)) = wB (l.take k) ++ le 2 (l.getD k 0) := by
  unfold wB; rw [List.take_succ_eq_append_getElem h, List.map_append, List.flatten_append, List.getD, List.getElem?_eq_getElem h]; simp only [List.map_cons, List.map_nil, List.flatten_cons, List.flatten_nil, List.append_nil, Option.getD_some]
theorem fl_bB (l : List Int) (k : Nat) (h : k < l.length) : bB (l.take (k + 1)) = bB (l.take k) ++ le 1 (l.getD k 0) := by
  unfold bB; rw [List.take_succ_eq_append_getElem h, List.map_append, List.flatten_append, List.getD, List.getElem?_eq_getElem h]; simp only [List.map_cons, List.map_nil, List.flatten_cons, List.flatten_nil, List.append_nil, Option.getD_some]
theorem fl_fB (l : List Bool) (k : Nat) (h : k < l.length) : fB (l.take (k + 1)) = fB (l.take k) ++ le 1 (if l.getD k false then 1 else 0) := by
  unfold fB; rw [List.take_succ_eq_append_getElem h, List.map_append, List.flatten_append, List.getD, List.getElem?_eq_getElem h]; simp only [List.map_cons, List.map_nil, List.flatten_cons, List.flatten_nil, List.append_nil, Option.getD_some]
theorem byts_le (n : Nat) (x : Int) : ∀ b ∈ le n x, 0 ≤ b ∧ b ≤ 255 := le_byte n x
theorem byts_flat {α : Type} (f : α → List Int) (l : List α) (h : ∀ x, ∀ b ∈ f x, 0 ≤ b ∧ b ≤ 255) : ∀ b ∈ (l.map f).flatten, 0 ≤ b ∧ b ≤ 255 := by
  intro b hb
  simp only [List.mem_flatten, List.mem_map] at hb
  obtain ⟨_, ⟨x, _, rfl⟩, hb⟩ := hb
  exact h x b hb
theorem portB_byts (s : Pt) : ∀ b ∈ portB s, 0 ≤ b ∧ b ≤ 255 := by
  intro b hb
  simp only [portB, List.mem_append] at hb
  rcases hb with (((hb | hb) | hb) | hb) | hb
  · exact byts_le _ _ b hb
  · exact byts_le _ _ b hb
  · exact byts_flat _ _ (fun x => byts_le 2 x) b hb
  · exact byts_flat _ _ (fun x => byts_le 1 x) b hb
  · exact byts_flat _ _ (fun x => byts_le 1 _) b hb
theorem words_cell (s : Pt) (k : Nat) (hk : k < 11) : s.cs[wordsO.getD k 0]? = some (.int .u16 ((wVals s).getD k 0)) := by
  rcases (show k = 0 ∨ k = 1 ∨ k = 2 ∨ k = 3 ∨ k = 4 ∨ k = 5 ∨ k = 6 ∨ k = 7 ∨ k = 8 ∨ k = 9 ∨ k = 10 by omega) with rfl | rfl | rfl | rfl | rfl | rfl | rfl | rfl | rfl | rfl | rfl
  all_goals rfl
theorem bytes_cell (s : Pt) (k : Nat) (hk : k < 3) : s.cs[bytesO.getD k 0]? = some (.int .u8 ((bVals s).getD k 0)) := by
  rcases (show k = 0 ∨ k = 1 ∨ k = 2 by omega) with rfl | rfl | rfl
  all_goals rfl
theorem flags_cell (s : Pt) (k : Nat) (hk : k < 6) : s.cs[flagsO.getD k 0]? = some (.bool ((fVals s).getD k false)) := by
  rcases (show k = 0 ∨ k = 1 ∨ k = 2 ∨ k = 3 ∨ k = 4 ∨ k = 5 by omega) with rfl | rfl | rfl | rfl | rfl | rfl
  all_goals rfl
/-- What can be put. -/
structure Rng (s : Pt) : Prop where
  w : ∀ x ∈ wVals s, 0 ≤ x ∧ x ≤ 65535
  b : ∀ x ∈ bVals s, 0 ≤ x ∧ x ≤ 255
theorem Fit2.rng {s : Pt} (F : Fit2 s) : Rng s := by
  refine ⟨fun x hx => ?_, fun x hx => ?_⟩
  · simp only [wVals, List.mem_cons, List.not_mem_nil, or_false] at hx
    rcases hx with rfl | rfl | rfl | rfl | rfl | rfl | rfl | rfl | rfl | rfl | rfl
    · exact ⟨F.w0, F.w1⟩
    · exact ⟨F.q0, F.q1⟩
    · exact ⟨F.p0, F.p1⟩
    · exact ⟨F.base.d0, F.base.d1⟩
    · exact ⟨F.base.l0, F.base.l1⟩
    · exact ⟨F.a0, F.a1⟩
    · exact ⟨F.b0, F.b1⟩
    · exact ⟨F.c0, F.c1⟩
    · exact ⟨F.e0, F.e1⟩
    · exact ⟨F.g0, F.g1⟩
    · exact ⟨F.h0, F.h1⟩
  · simp only [bVals, List.mem_cons, List.not_mem_nil, or_false] at hx
    rcases hx with rfl | rfl | rfl
    · exact ⟨F.base.c0, F.base.c1⟩
    · exact ⟨F.f0, F.f1⟩
    · exact ⟨F.o0, F.o1⟩
theorem words_rng {s : Pt} (F : Rng s) (k : Nat) (hk : k < 11) : 0 ≤ (wVals s).getD k 0 ∧ (wVals s).getD k 0 ≤ 65535 := F.w _ (by
  rw [List.getD, List.getElem?_eq_getElem (by rw [wVals_len]; exact hk)]; simp)
theorem bytes_rng {s : Pt} (F : Rng s) (k : Nat) (hk : k < 3) : 0 ≤ (bVals s).getD k 0 ∧ (bVals s).getD k 0 ≤ 255 := F.b _ (by
  rw [List.getD, List.getElem?_eq_getElem (by rw [bVals_len]; exact hk)]; simp)
theorem flags_rng {s : Pt} (F : Rng s) (k : Nat) (hk : k < 6) : True := trivial
section
variable {w : World} {g gw : Nat} {s : Pt} {bv : Value} {bs : List Int}
set_option maxHeartbeats 16000000 in
theorem savePo_any (A : Po w g s) (F : Rng s) (H : Wr w gw bv bs) (n1 : g ≠ gw) (n2 : bv.ownBlock ≠ some g) (hl : bs.length ≤ 1000) :
    Calls Tryz.prog 51 #[poP g, wrP' gw] w (PutP w gw bv (bs ++ portB s)) := by
  have c0 : w.cell? ⟨g, 0, none⟩ = some (.int .i64 s.now) := A.cell 0
  have AA := Lib.hid A
  have FF := Lib.hid F
  have N0 := Lib.hid (number_any H s.now (by omega))
  clear A H
  go_enter Tryz.func51, Tryz.ntmps51
  go_wp2_with fail
  refine N0.out.mono ?_
  rintro e w1 ⟨rfl, b1, h1, s1⟩
  have A1 := s1.blk AA.out n1 n2
  have c1 : w1.cell? ⟨g, 1, none⟩ = some (.int .i64 s.busy) := A1.cell 1
  have N1 := Lib.hid (number_any h1 s.busy (by rw [List.length_append, le_len]; omega))
  have S1 := Lib.hid s1
  clear h1 s1 N0 A1 c0
  go_wp2_with fail
  refine N1.out.mono ?_
  rintro e w2 ⟨rfl, b2, h2, s2⟩
  have HW := Lib.hid h2
  have ST := Lib.hid (S1.out.trans s2)
  clear h2 s2 N1 S1 c1
  have HX := Lib.hid (show (bs ++ le 8 (s.now % 18446744073709551616) ++ le 8 (s.busy % 18446744073709551616)).length ≤ 1016 by rw [List.length_append, List.length_append, le_len, le_len]; omega)
  have PB : Hid (∀ X, X = bs ++ le 8 (s.now % 18446744073709551616) ++ le 8 (s.busy % 18446744073709551616) → X ++ wB (wVals s) ++ bB (bVals s) ++ fB (fVals s) = bs ++ portB s) := Lib.hid (fun X hX => by subst hX; simp [portB, n64])
  obtain ⟨X, hX⟩ : ∃ X, bs ++ le 8 (s.now % 18446744073709551616) ++ le 8 (s.busy % 18446744073709551616) = X := ⟨_, rfl⟩
  have PX := Lib.hid (PB.out X hX.symm)
  rw [hX] at HW HX
  have hx := HX.out
  clear hX PB HX
  go_wp2_with fail
  refine (wordsP_any _ g).mono ?_
  rintro e w3 ⟨rfl, hb3⟩
  have HW := Lib.hid (HW.out.kept hb3)
  have ST := Lib.hid (ST.out.below hb3)
  clear hb3
  go_wp2_with fail
  go_loopw [26] (fun i wr => ∃ (k : Nat) (b1 : Value), k ≤ 11 ∧ i = .int .i64 k ∧ Wr wr gw b1 (X ++ wB ((wVals s).take k)) ∧ WStep w gw bv wr b1) (fun i _ => 11 - (intOf i).toNat)
  case atStart => exact ⟨0, _, by omega, rfl, by simpa [wB] using HW.out, ST.out⟩
  case round =>
    obtain ⟨k, b1, hk, rfl, h1, s1⟩ := hrel
    have H1 := Lib.hid h1
    have S1 := Lib.hid s1
    clear h1 s1 HW ST
    by_cases hlt : k < 11
    · have A1 := S1.out.blk AA.out n1 n2
      have hidx := words_idx g k hlt wr
      have hc : wr.cell? ⟨g, wordsO.getD k 0, none⟩ = some (.int .u16 ((wVals s).getD k 0)) := (A1.cell _).trans (words_cell s k hlt)
      have hr := words_rng FF.out k hlt
      have E := Lib.hid (fl_wB (wVals s) k (by rw [wVals_len]; exact hlt))
      have hl1 : (X ++ wB ((wVals s).take k)).length ≤ 1048576 := by
        rw [List.length_append]
        have := wB_len ((wVals s).take k)
        have h2 : ((wVals s).take k).length ≤ k := List.length_take_le _ _
        omega
      obtain ⟨x, hx⟩ : ∃ x, (wVals s).getD k 0 = x := ⟨_, rfl⟩
      obtain ⟨o, ho⟩ : ∃ o, wordsO.getD k 0 = o := ⟨_, rfl⟩
      rw [ho] at hidx hc
      rw [hx] at hc E
      rw [hx] at hr
      have WD := Lib.hid (word_any H1.out x hr.1 hr.2 hl1)
      clear hx ho A1
      clear hr
      go_wp2_with fail
      refine WD.out.mono ?_
      rintro e w2 ⟨rfl, b2, h2, s2⟩
      have H2 := Lib.hid h2
      have S2 := Lib.hid (S1.out.trans s2)
      clear h2 s2 WD H1 S1
      go_wp2_with fail
      go_roundw
      case rel => exact ⟨k + 1, b2, by omega, by go_num, by rw [E.out, ← List.append_assoc]; exact H2.out, S2.out⟩
      case measure => simp [intOf]; omega
    · have hke : k = 11 := by omega
      subst hke
      rw [show (wVals s).take 11 = wVals s from rfl] at H1
      clear hlt
      have hy : (X ++ wB (wVals s)).length ≤ 1100 := by rw [List.length_append, wB_len, wVals_len]; omega
      obtain ⟨Y, hY⟩ : ∃ Y, X ++ wB (wVals s) = Y := ⟨_, rfl⟩
      rw [hY] at H1 PX hy
      clear hY
      have HY := Lib.hid hy
      clear hx
      obtain ⟨w0, rfl⟩ : ∃ w0 : World, w0 = wr := ⟨_, rfl⟩
      go_wp2_with fail
      refine (bytesP_any _ g).mono ?_
      rintro e w4 ⟨rfl, hb4⟩
      have HW := Lib.hid (H1.out.kept hb4)
      have ST := Lib.hid (S1.out.below hb4)
      have hx := HY.out
      clear hb4 H1 S1 HY
      go_wp2_with fail
      go_loopw [37] (fun i wr => ∃ (k : Nat) (b1 : Value), k ≤ 3 ∧ i = .int .i64 k ∧ Wr wr gw b1 (Y ++ bB ((bVals s).take k)) ∧ WStep w gw bv wr b1) (fun i _ => 3 - (intOf i).toNat)
      case atStart => exact ⟨0, _, by omega, rfl, by simpa [bB] using HW.out, ST.out⟩
      case round =>
        obtain ⟨k, b1, hk, rfl, h1, s1⟩ := hrel
        have H1 := Lib.hid h1
        have S1 := Lib.hid s1
        clear h1 s1 HW ST
        by_cases hlt : k < 3
        · have A1 := S1.out.blk AA.out n1 n2
          have hidx := bytes_idx g k hlt wr
          have hc : wr.cell? ⟨g, bytesO.getD k 0, none⟩ = some (.int .u8 ((bVals s).getD k 0)) := (A1.cell _).trans (bytes_cell s k hlt)
          have hr := bytes_rng FF.out k hlt
          have E := Lib.hid (fl_bB (bVals s) k (by rw [bVals_len]; exact hlt))
          have hl1 : (Y ++ bB ((bVals s).take k)).length ≤ 1048576 := by
            rw [List.length_append]
            have := bB_len ((bVals s).take k)
            have h2 : ((bVals s).take k).length ≤ k := List.length_take_le _ _
            omega
          obtain ⟨x, hx⟩ : ∃ x, (bVals s).getD k 0 = x := ⟨_, rfl⟩
          obtain ⟨o, ho⟩ : ∃ o, bytesO.getD k 0 = o := ⟨_, rfl⟩
          rw [ho] at hidx hc
          rw [hx] at hc E
          rw [hx] at hr
          have WD := Lib.hid (byte_any H1.out x hr.1 hr.2 hl1)
          clear hx ho A1
          clear hr
          go_wp2_with fail
          refine WD.out.mono ?_
          rintro e w2 ⟨rfl, b2, h2, s2⟩
          have H2 := Lib.hid h2
          have S2 := Lib.hid (S1.out.trans s2)
          clear h2 s2 WD H1 S1
          go_wp2_with fail
          go_roundw
          case rel => exact ⟨k + 1, b2, by omega, by go_num, by rw [E.out, ← List.append_assoc]; exact H2.out, S2.out⟩
          case measure => simp [intOf]; omega
        · have hke : k = 3 := by omega
          subst hke
          rw [show (bVals s).take 3 = bVals s from rfl] at H1
          clear hlt
          have hz : (Y ++ bB (bVals s)).length ≤ 1200 := by rw [List.length_append, bB_len, bVals_len]; omega
          obtain ⟨Z, hZ⟩ : ∃ Z, Y ++ bB (bVals s) = Z := ⟨_, rfl⟩
          rw [hZ] at H1 PX hz
          clear hZ
          have HZ := Lib.hid hz
          clear hx
          obtain ⟨w0, rfl⟩ : ∃ w0 : World, w0 = wr := ⟨_, rfl⟩
          go_wp2_with fail
          refine (flagsP_any _ g).mono ?_
          rintro e w4 ⟨rfl, hb4⟩
          have HW := Lib.hid (H1.out.kept hb4)
          have ST := Lib.hid (S1.out.below hb4)
          have hx := HZ.out
          clear hb4 H1 S1 HZ
          go_wp2_with fail
          go_loopw [48] (fun i wr => ∃ (k : Nat) (b1 : Value), k ≤ 6 ∧ i = .int .i64 k ∧ Wr wr gw b1 (Z ++ fB ((fVals s).take k)) ∧ WStep w gw bv wr b1) (fun i _ => 6 - (intOf i).toNat)
          case atStart => exact ⟨0, _, by omega, rfl, by simpa [fB] using HW.out, ST.out⟩
          case round =>
            obtain ⟨k, b1, hk, rfl, h1, s1⟩ := hrel
            have H1 := Lib.hid h1
            have S1 := Lib.hid s1
            clear h1 s1 HW ST
            by_cases hlt : k < 6
            · have A1 := S1.out.blk AA.out n1 n2
              have hidx := flags_idx g k hlt wr
              have hc : wr.cell? ⟨g, flagsO.getD k 0, none⟩ = some (.bool ((fVals s).getD k false)) := (A1.cell _).trans (flags_cell s k hlt)
              have hr := flags_rng FF.out k hlt
              have E := Lib.hid (fl_fB (fVals s) k (by rw [fVals_len]; exact hlt))
              have hl1 : (Z ++ fB ((fVals s).take k)).length ≤ 1048576 := by
                rw [List.length_append]
                have := fB_len ((fVals s).take k)
                have h2 : ((fVals s).take k).length ≤ k := List.length_take_le _ _
                omega
              obtain ⟨x, hx⟩ : ∃ x, (fVals s).getD k false = x := ⟨_, rfl⟩
              obtain ⟨o, ho⟩ : ∃ o, flagsO.getD k 0 = o := ⟨_, rfl⟩
              rw [ho] at hidx hc
              rw [hx] at hc E
              clear hr
              have WD := Lib.hid (flag_any H1.out x hl1)
              clear hx ho A1
              
              go_wp2_with fail
              refine WD.out.mono ?_
              rintro e w2 ⟨rfl, b2, h2, s2⟩
              have H2 := Lib.hid h2
              have S2 := Lib.hid (S1.out.trans s2)
              clear h2 s2 WD H1 S1
              go_wp2_with fail
              go_roundw
              case rel => exact ⟨k + 1, b2, by omega, by go_num, by rw [E.out, ← List.append_assoc]; exact H2.out, S2.out⟩
              case measure => simp [intOf]; omega
            · have hke : k = 6 := by omega
              subst hke
              rw [show (fVals s).take 6 = fVals s from rfl] at H1
              clear hlt
              go_wp2_with fail
              go_end0
              exact ⟨rfl, b1, by rw [← PX.out]; exact H1.out, S1.out⟩

set_option maxHeartbeats 4000000 in
theorem savedPo_any (A : Po w g s) (F : Rng s) : Calls Tryz.prog 13 #[poP g] w (fun e w' => ∃ v, e = .returned v ∧ FileAt w.heap.size (fileOf (portB s)) v w' ∧ Below w.heap.size w w') := by
  have AA := Lib.hid A
  have hlt := A.lt
  clear A
  go_enter Tryz.func13, Tryz.ntmps13
  go_wp2_with fail
  refine (newW_any w).mono ?_
  rintro e w1 ⟨gw, rfl, hg, h1, b1⟩
  have SV := Lib.hid (savePo_any (AA.out.kept b1) F h1 (by omega) (by simp [Value.ownBlock]) (by simp))
  have B1 := Lib.hid b1
  clear h1 b1
  go_wp2_with fail
  refine SV.out.mono ?_
  rintro e w2 ⟨rfl, bv, h2, s2⟩
  obtain ⟨b2, _⟩ := s2.out B1.out hg (fun b h => by simp [Value.ownBlock] at h)
  rw [List.nil_append] at h2
  have B2 := Lib.hid b2
  have DN := Lib.hid (done_any h2 (by intro e; have := portB_len s; rw [e] at this; cases this) (portB_byts s) (by rw [portB_len]; omega))
  clear h2 s2 b2 SV
  go_wp2_with fail
  refine DN.out.mono ?_
  rintro e w3 ⟨v, rfl, hf, b3⟩
  have HF := Lib.hid (hf.weak B2.out.size)
  have B3 := Lib.hid (B2.out.trans (b3.mono B2.out.size))
  clear hf b3 DN
  go_wp2_with fail
  go_ret
  exact ⟨v, rfl, HF.out, B3.out⟩
end
end Go.Proofs.YtniagcbajjmopaaGreat
