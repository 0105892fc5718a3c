/- DmaLoads: the walk. -/
import Derived.Test.YtkeikkkcmackeaaDmaY
import Derived.Test.YtkeikkkcmackeaaDmaZ
import Derived.Test.YtkeikkkcmackeaaSaveJ
import Derived.Test.YtkeikkkcmackeaaSame
import Derived.Test.YtkeikkkcmackeaaCells
import Derived.WalkKit
import Derived.ProofKit
import Derived.OpenShut
namespace Go.Proofs.Ytkeikkkcmackeaa.dmaLoads
open Go.RowKit
set_option linter.unusedVariables false
set_option linter.unusedSimpArgs false
set_option maxRecDepth 100000
/-- The channels that a state is loaded into. -/
def d9 : Nat → Int := put1 (fun _ => 0) 0 9
theorem d9_rng : Rng d9 := Rng.put1 (fun _ => by omega) 0 (by omega) (by omega)
theorem wr9 : wrF 17152 9 (fun _ => 0) = (true, d9) := by
  have h : plc 17152 = some 0 := by decide
  unfold wrF
  rw [if_neg (by omega), if_neg (by omega), h]
  rfl
set_option maxHeartbeats 32000000 in
theorem law (f : Nat → Int) (cs : Array Value) (K : Rw f cs) (R : Rng f) (w : World) : Calls Try.prog 7 #[.agg cs] w (Says w (.bool true)) := by
  have AW := Lib.hid awake_any
  have RR := Lib.hid R
  have KK := Lib.hid K
  have PU := Lib.hid (fun W => putDa_any W cs K R)
  have hi : (Try.prog.info? 51).map (·.size) = some cs.size := by rw [K.sz]; kernel_rfl
  have HI := Lib.hid hi
  clear R hi K
  go_enter Try.func7, Try.ntmps7
  try simp only [List.append_eq, List.cons_append, List.nil_append]
  go_upto_region 1 with (fail)
  obtain ⟨W2, hW⟩ : ∃ W2, W2 = w.alloc (.cells cs 51) := ⟨_, rfl⟩
  obtain ⟨B, hB⟩ : ∃ B, B = w.heap.size := ⟨_, rfl⟩
  have cb : Below w.heap.size w W2 := by rw [hW]; exact belowA (Below.refl _ _) _
  have k : Ra W2 B f := by rw [hW, hB]; exact KK.out.new w
  have HB3 : Hid (W2.heap[B]? = some (.cells cs 51 (0, 0))) := Lib.hid (by rw [hW, hB]; exact Blk.new _ _ _)
  rw [← hW, ← hB]
  have CB := Lib.hid cb
  have KB := Lib.hid k
  clear hW hB cb k KK
  go_wp2_with (first | (refine wpList_load_row rfl 51 (.tmp 1) rfl B rfl 51 cs (0, 0) _ HB3.out Try.underlying51 rfl HI.out ?_))
  refine (PU.out _).mono ?_
  rintro e w3 ⟨bv, rfl, hf, b3⟩
  have NR := Lib.hid (newR_any w3 bv (dmB f) _ hf (dmB_ne f) (dmB_byts RR.out) (by rw [dmB_len]; omega))
  have HF := Lib.hid hf
  have B3 := Lib.hid (CB.out.trans (b3.mono CB.out.size))
  have KB3 := Lib.hid (KB.out.kept b3)
  have hBl := KB3.out.lt
  clear hf b3 PU KB HB3
  go_wp2_with fail
  refine (new_any w3).mono ?_
  rintro e w4 ⟨g, rfl, hg, a4, b4⟩
  have A4 := Lib.hid a4
  have D4 := Lib.hid b4
  have KB4 := Lib.hid (KB3.out.kept b4)
  have B4 := Lib.hid (B3.out.trans (b4.mono B3.out.size))
  have hgw : w.heap.size ≤ g := Nat.le_trans B3.out.size hg
  have n3 : g ≠ B := by omega
  clear a4 b4 KB3 NR
  have WR := Lib.hid (write_any A4.out 17152 9 (by omega) (by omega))
  rw [wr9] at WR
  go_wp2_with fail
  refine WR.out.mono ?_
  rintro e w5 ⟨rfl, a5, u5⟩
  have A5 : Hid (Da w5 g d9) := Lib.hid a5
  have D5 := Lib.hid (u5.out D4.out hg)
  have B5 := Lib.hid (u5.out B4.out hgw)
  have KB5 : Hid (Ra w5 B f) := Lib.hid (Ra.old KB4.out (u5.block B KB4.out.lt (fun e => n3 e.symm)))
  have SV := Lib.hid (savedDa_any a5 d9_rng)
  clear a5 u5 A4 D4 B4 KB4 WR
  go_wp2_with fail
  refine SV.out.mono ?_
  rintro e w6 ⟨sv, rfl, hs, b6⟩
  have HS6 := Lib.hid hs
  have A6 := Lib.hid (A5.out.kept b6)
  have D6 := Lib.hid (D5.out.trans (b6.mono D5.out.size))
  have B6 := Lib.hid (B5.out.trans (b6.mono B5.out.size))
  have KB6 := Lib.hid (KB5.out.kept b6)
  have g5 := A5.out.lt
  clear hs b6 SV A5 D5 B5 KB5
  have NR := Lib.hid (newR_any w6 bv (dmB f) _ (HF.out.kept D6.out) (dmB_ne f) (dmB_byts RR.out) (by rw [dmB_len]; omega))
  go_wp2_with fail
  refine NR.out.mono ?_
  rintro e w7 ⟨gr, bg, cc, rfl, hgr, hbg, hr, b7⟩
  have HR7 := Lib.hid hr
  have A7 := Lib.hid (A6.out.kept b7)
  have Z7 := Lib.hid b7
  have D7 := Lib.hid (D6.out.trans (b7.mono D6.out.size))
  have B7 := Lib.hid (B6.out.trans (b7.mono B6.out.size))
  have KB7 := Lib.hid (KB6.out.kept b7)
  have n1 : g ≠ gr := by have := A6.out.lt; omega
  have n2 : g ≠ bg := by have := A6.out.lt; omega
  have n4 : B ≠ gr := by have := KB6.out.lt; omega
  have hgrw : w.heap.size ≤ gr := Nat.le_trans B6.out.size hgr
  have hgr6 := hgr
  have hgr3 : w3.heap.size ≤ gr := Nat.le_trans D6.out.size hgr
  clear hr b7 A6 B6 KB6 D6 NR
  go_wp2_with fail
  refine (nFrame w7).mono ?_
  rintro e w8 ⟨rfl, b8⟩
  have E8 := Lib.hid b8
  clear b8
  go_wp2_with fail
  refine (nLine w8).mono ?_
  rintro e w9 ⟨rfl, b9⟩
  have E9 := Lib.hid (E8.out.trans (b9.mono E8.out.size))
  clear b9 E8
  go_wp2_with fail
  refine (nDone w9 1).mono ?_
  rintro e w10 ⟨rfl, b10⟩
  have E10 := Lib.hid (E9.out.trans (b10.mono E9.out.size))
  clear b10 E9
  go_wp2_with fail
  refine (nNext w10).mono ?_
  rintro e w11 ⟨rfl, b11⟩
  have E11 := Lib.hid (E10.out.trans (b11.mono E10.out.size))
  clear b11 E10
  go_wp2_with fail
  have E11' := Lib.hid (belowA E11.out (.cells #[.int .u8 0, .int .u32 0, .int .u8 0] 30))
  obtain ⟨w11', hw11⟩ : ∃ w', w' = w11.alloc (.cells #[.int .u8 0, .int .u32 0, .int .u8 0] 30) := ⟨_, rfl⟩
  rw [← hw11] at E11' ⊢
  clear hw11 E11
  refine (nRead w11' 17152).mono ?_
  rintro e w12 ⟨rfl, b12⟩
  have E12 := Lib.hid (E11'.out.trans (b12.mono E11'.out.size))
  clear b12 E11'
  go_wp2_with fail
  refine (nWrite w12 17152 1).mono ?_
  rintro e w13 ⟨rfl, b13⟩
  have E13 := Lib.hid (E12.out.trans (b13.mono E12.out.size))
  clear b13 E12
  go_wp2_with fail
  refine (nLoad w13 _).mono ?_
  rintro e w14 ⟨rfl, b14⟩
  have E14 := Lib.hid (E13.out.trans (b14.mono E13.out.size))
  clear b14 E13
  have A14 := Lib.hid (A7.out.kept E14.out)
  have HR14 := Lib.hid (HR7.out.kept E14.out)
  have Z14 := Lib.hid (Z7.out.trans (E14.out.mono Z7.out.size))
  have D14 := Lib.hid (D7.out.trans (E14.out.mono D7.out.size))
  have KB14 := Lib.hid (KB7.out.kept E14.out)
  have B14 := Lib.hid (B7.out.trans (E14.out.mono B7.out.size))
  have hsz14 : w7.heap.size ≤ w14.heap.size := E14.out.size
  clear A7 HR7 Z7 D7 KB7 E14
  have LD := Lib.hid (loadDa_any A14.out RR.out HR14.out n1 n2)
  go_wp2_with fail
  refine LD.out.mono ?_
  rintro e w15 ⟨rfl, hx, hr, u15⟩
  have X15 := Lib.hid hx
  have HS15 := Lib.hid (HS6.out.mid Z14.out u15.2.2.2.2 g5 hgr6)
  have D15 : Hid (Below w3.heap.size w3 w15) := Lib.hid (D14.out.trans ⟨u15.1, u15.2.1, u15.2.2.1, u15.2.2.2.1, fun i hi => u15.2.2.2.2 i (Nat.lt_of_lt_of_le hi D14.out.size) (by omega) (by omega)⟩)
  have HF15 := Lib.hid (HF.out.kept D15.out)
  have B15 : Hid (Below w.heap.size w w15) := Lib.hid (B14.out.trans ⟨u15.1, u15.2.1, u15.2.2.1, u15.2.2.2.1, fun i hi => u15.2.2.2.2 i (Nat.lt_of_lt_of_le hi B14.out.size) (by omega) (by omega)⟩)
  have KB15 : Hid (Ra w15 B f) := Lib.hid (Ra.old KB14.out (u15.2.2.2.2 B KB14.out.lt n4 (fun e => n3 e.symm)))
  clear hx hr u15 LD A14 HR14 HS6 HF B14 KB14 Z14 D14 D15
  have RC := Lib.hid (rcan_any KB15.out RR.out)
  obtain ⟨cn, hcn⟩ : ∃ cn, canD f = cn := ⟨_, rfl⟩
  rw [hcn] at RC X15
  rw [hcn]
  clear hcn
  have FINISH : Hid (∀ (t : Nat → Int), Rng t → ∀ W, Da W g t → ∀ u N, FileAt N (fileOf (dmB t)) u W → ∀ w12 v, FileAt W.heap.size (fileOf (dmB t)) v w12 → Below W.heap.size W w12 → Calls Try.prog 34 #[v, u] w12 (Told w12 true)) := Lib.hid (by
    intro t _ W _ u N hu w12 v hv hb
    have := bytesF_any hv (hu.kept hb) (by rw [file_len, dmB_len]; omega) (by rw [file_len, dmB_len]; omega)
    rwa [decide_eq_true rfl] at this)
  cases cn with
  | true =>
    have XX : Hid (Da w15 g f) := Lib.hid X15.out
    clear X15 HS15
    simp only [if_true]
    go_wp2_with fail
    refine RC.out.mono ?_
    rintro e w16 ⟨rfl, b16⟩
    have X16 := Lib.hid (XX.out.kept b16)
    have FD := Lib.hid (HF15.out.kept b16)
    have B16 := Lib.hid (B15.out.trans (b16.mono B15.out.size))
    have S2 := Lib.hid (savedDa_any X16.out RR.out)
    clear b16 RC XX HF15 B15
    go_wp2_with fail
    refine S2.out.mono ?_
    rintro e w17 ⟨v2, rfl, hf2, b17⟩
    have BY := Lib.hid (FINISH.out _ RR.out _ X16.out _ _ FD.out w17 v2 hf2 b17)
    have B17 := Lib.hid (B16.out.trans (b17.mono B16.out.size))
    clear hf2 b17 S2 B16
    go_wp2_with fail
    refine BY.out.mono ?_
    rintro e w18 ⟨rfl, b18⟩
    have B18 := Lib.hid (B17.out.trans (b18.mono B17.out.size))
    clear b18 BY B17
    go_wp2_with fail
    refine (AW.out _).mono ?_
    rintro e w19 ⟨rfl, b19⟩
    have B19 := Lib.hid (B18.out.trans (b19.mono B18.out.size))
    clear b19 B18
    go_wp2_with fail
    go_ret
    exact ⟨rfl, B19.out⟩
  | false =>
    have XX : Hid (Da w15 g d9) := Lib.hid X15.out
    clear X15 HF15
    simp only [Bool.false_eq_true, if_false]
    go_wp2_with fail
    refine RC.out.mono ?_
    rintro e w16 ⟨rfl, b16⟩
    have X16 := Lib.hid (XX.out.kept b16)
    have FD := Lib.hid (HS15.out.kept b16)
    have B16 := Lib.hid (B15.out.trans (b16.mono B15.out.size))
    have S2 := Lib.hid (savedDa_any X16.out d9_rng)
    clear b16 RC XX HS15 B15
    go_wp2_with fail
    refine S2.out.mono ?_
    rintro e w17 ⟨v2, rfl, hf2, b17⟩
    have BY := Lib.hid (FINISH.out _ d9_rng _ X16.out _ _ FD.out w17 v2 hf2 b17)
    have B17 := Lib.hid (B16.out.trans (b17.mono B16.out.size))
    clear hf2 b17 S2 B16
    go_wp2_with fail
    refine BY.out.mono ?_
    rintro e w18 ⟨rfl, b18⟩
    have B18 := Lib.hid (B17.out.trans (b18.mono B17.out.size))
    clear b18 BY B17
    go_wp2_with fail
    refine (AW.out _).mono ?_
    rintro e w19 ⟨rfl, b19⟩
    have B19 := Lib.hid (B18.out.trans (b19.mono B18.out.size))
    clear b19 B18
    go_wp2_with fail
    go_ret
    exact ⟨rfl, B19.out⟩
/-- What the cells of an argument hold. -/
def fOf (cs : List Value) (j : Nat) : Int := match cs[j]? with | some (.int _ x) => x | _ => 0
theorem rw_of {cs : List Value} (hl : cs.length = 104) (h : ∀ j, j < 104 → ∃ x, cs[j]? = some (.int .u8 x) ∧ 0 ≤ x ∧ x ≤ 255) : Rw (fOf cs) cs.toArray ∧ Rng (fOf cs) := by
  refine ⟨⟨by simpa using hl, fun j hj => ?_⟩, fun j => ?_⟩
  · obtain ⟨x, hx, _⟩ := h j hj
    have e : fOf cs j = x := by unfold fOf; rw [hx]
    rw [e]
    simpa using hx
  · by_cases hj : j < 104
    · obtain ⟨x, hx, h0, h1⟩ := h j hj
      have e : fOf cs j = x := by unfold fOf; rw [hx]
      rw [e]
      exact ⟨h0, h1⟩
    · have e : fOf cs j = 0 := by unfold fOf; rw [List.getElem?_eq_none (by omega)]
      rw [e]
      omega
open Go.ChangeShapes Go.WideShapes Go.ChangeAt
theorem walk (H : Type) (enc : TypeId × Value → H) (W : World) (base : Nat) (v0 : Value) {d0 : DataW H} {p0 : List MemPlace}
    (k0 : Value.okWide Try.prog W .any base 51 v0) (h0 : DataW.Trod enc Try.prog W 0 (fun _ => true) true 51 v0 d0 p0) :
    Calls Try.prog 7 #[v0] W fun e w' => e = .returned (.bool true) ∧ Below W.heap.size W w' := by
  obtain ⟨cs, n, rfl, hlen, hf⟩ := openCells Try.underlying51 k0 h0
  have hl : cs.length = 104 := hlen.trans (by kernel_rfl)
  obtain ⟨y0, t0⟩ := hf 0 _ rfl
  obtain ⟨y1, t1⟩ := hf 1 _ rfl
  obtain ⟨y2, t2⟩ := hf 2 _ rfl
  obtain ⟨y3, t3⟩ := hf 3 _ rfl
  obtain ⟨y4, t4⟩ := hf 4 _ rfl
  obtain ⟨y5, t5⟩ := hf 5 _ rfl
  obtain ⟨y6, t6⟩ := hf 6 _ rfl
  obtain ⟨y7, t7⟩ := hf 7 _ rfl
  obtain ⟨y8, t8⟩ := hf 8 _ rfl
  have G := cellGrid (o := 0) (m := 8) (q := 12) Try.underlying49 Try.underlying48 Try.underlying5 (by kernel_rfl) (by kernel_rfl) t0
  obtain ⟨x1, e1, r1⟩ := cellInt (o := 96) Try.underlying5 t1
  obtain ⟨x2, e2, r2⟩ := cellInt (o := 97) Try.underlying5 t2
  obtain ⟨x3, e3, r3⟩ := cellInt (o := 98) Try.underlying5 t3
  obtain ⟨x4, e4, r4⟩ := cellInt (o := 99) Try.underlying5 t4
  obtain ⟨x5, e5, r5⟩ := cellInt (o := 100) Try.underlying5 t5
  obtain ⟨x6, e6, r6⟩ := cellInt (o := 101) Try.underlying5 t6
  obtain ⟨x7, e7, r7⟩ := cellInt (o := 102) Try.underlying5 t7
  obtain ⟨x8, e8, r8⟩ := cellInt (o := 103) Try.underlying5 t8
  have ALL : ∀ j, j < 104 → ∃ x, cs[j]? = some (.int .u8 x) ∧ 0 ≤ x ∧ x ≤ 255 := by
    intro j hj
    by_cases j0 : j < 96
    · obtain ⟨x, hx, hw⟩ := G j (by omega)
      rw [Nat.zero_add] at hx
      exact ⟨x, hx, wf_u8 hw⟩
    · rcases (show j = 96 ∨ j = 97 ∨ j = 98 ∨ j = 99 ∨ j = 100 ∨ j = 101 ∨ j = 102 ∨ j = 103 by omega) with rfl | rfl | rfl | rfl | rfl | rfl | rfl | rfl
      · exact ⟨x1, e1, wf_u8 r1⟩
      · exact ⟨x2, e2, wf_u8 r2⟩
      · exact ⟨x3, e3, wf_u8 r3⟩
      · exact ⟨x4, e4, wf_u8 r4⟩
      · exact ⟨x5, e5, wf_u8 r5⟩
      · exact ⟨x6, e6, wf_u8 r6⟩
      · exact ⟨x7, e7, wf_u8 r7⟩
      · exact ⟨x8, e8, wf_u8 r8⟩
  obtain ⟨K, R⟩ := rw_of hl ALL
  exact law _ _ K R W
end Go.Proofs.Ytkeikkkcmackeaa.dmaLoads
