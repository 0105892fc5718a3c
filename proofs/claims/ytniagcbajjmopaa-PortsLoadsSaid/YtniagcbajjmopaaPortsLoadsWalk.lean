/- PortsLoads: the walk. -/
import Derived.Test.YtniagcbajjmopaaPortsZ
import Derived.Test.YtniagcbajjmopaaCells
import Derived.WalkKit
import Derived.ProofKit
import Derived.OpenShut
namespace Go.Proofs.Ytniagcbajjmopaa.portsLoads
open Go.RowKit
set_option linter.unusedVariables false
set_option linter.unusedSimpArgs false
set_option maxRecDepth 100000
/-- The unit that a state is loaded into. -/
def p9 : Pt := { Pt.zero with factor := 9, soon := 0 }
theorem wr9 : wrP 16898 9 Pt.zero = (true, p9) := by simp [wrP, p9, Pt.zero]
theorem fit_zero : Fit2 Pt.zero := by
  constructor
  · constructor <;> simp [Pt.zero]
  all_goals simp [Pt.zero]
theorem write_is {w : World} {g : Nat} {s : Pt} (A : Po w g s) (F : Fit2 s) (p v : Int) (v0 : 0 ≤ v) (v1 : v ≤ 255) {b : Bool} {s' : Pt} (h : wrP p v s = (b, s')) :
    Calls Try.prog 9 #[poP g, .int .u16 p, .int .u8 v] w (fun e w' => e = .returned (.bool b) ∧ Po w' g s' ∧ Fit2 s' ∧ Upd w g w') := by
  refine (write_gen A F p v v0 v1).mono ?_
  rintro e w' ⟨rfl, a, u⟩
  have f := wrP_fit F p v v0 v1
  rw [h] at a f
  exact ⟨by rw [h], a, f, u⟩
theorem portB_soon (s : Pt) : portB { s with soon := 0 } = portB s := rfl
theorem rng_soon {s : Pt} (R : Rng s) : Rng { s with soon := 0 } := ⟨fun x hx => R.w x hx, fun x hx => R.b x hx⟩
set_option maxHeartbeats 32000000 in
theorem law (s : Pt) (R : Rng s) (I : I64 s) (w : World) : Calls Try.prog 7 #[.agg s.rs] w (Says w (.bool true)) := by
  have AW := Lib.hid awake_any
  have RR := Lib.hid R
  have II := Lib.hid I
  have PU := Lib.hid (fun W => putPo_any W s R)
  have hne : portB s ≠ [] := by intro e; have := portB_len s; rw [e] at this; cases this
  have NE := Lib.hid hne
  have LE := Lib.hid (portB_len s)
  have hone : s.rs.all (·.oneCell') = true := by simp [Pt.rs, Value.oneCell']
  have hsz : s.rs.size = 22 := rfl
  have hi : (Try.prog.info? 44).map (·.size) = some s.rs.size := by rw [hsz]; kernel_rfl
  obtain ⟨cs, hcs⟩ : ∃ cs, s.rs = cs := ⟨_, rfl⟩
  have HCS := Lib.hid hcs
  rw [hcs] at hone hsz hi PU ⊢
  have HI := Lib.hid hi
  clear R I hne hcs hi hone
  go_enter Try.func7, Try.ntmps7
  try simp only [List.append_eq, List.cons_append, List.nil_append]
  go_upto_region 1 with (fail)
  obtain ⟨W2, hW⟩ : ∃ W2, W2 = w.alloc (.cells cs 44) := ⟨_, rfl⟩
  obtain ⟨B, hB⟩ : ∃ B, B = w.heap.size := ⟨_, rfl⟩
  have cb : Below w.heap.size w W2 := by rw [hW]; exact belowA (Below.refl _ _) _
  have k : Blk W2 B 44 cs := by rw [hW, hB]; exact Blk.new _ _ _
  rw [← hW, ← hB]
  have CB := Lib.hid cb
  have KB := Lib.hid k
  have HB3 : Hid (W2.heap[B]? = some (.cells cs 44 (0, 0))) := Lib.hid k
  clear hW hB cb k
  go_wp2_with (first | (refine wpList_load_row rfl 44 (.tmp 1) rfl B rfl 44 cs (0, 0) _ HB3.out Try.underlying44 rfl HI.out ?_))
  refine (PU.out _).mono ?_
  rintro e w3 ⟨bv, rfl, hf, b3⟩
  have HF := Lib.hid hf
  have B3 := Lib.hid (CB.out.trans (b3.mono CB.out.size))
  have KB3 := Lib.hid (KB.out.kept b3)
  have hBl := KB3.out.lt
  clear hf b3 PU KB HB3
  go_wp2_with fail
  refine (new_any w3).mono ?_
  rintro e w4 ⟨g, rfl, hg, a4, b4⟩
  have A4 := Lib.hid a4
  have D4 := Lib.hid b4
  have KB4 := Lib.hid (KB3.out.kept b4)
  have B4 := Lib.hid (B3.out.trans (b4.mono B3.out.size))
  have hgw : w.heap.size ≤ g := Nat.le_trans B3.out.size hg
  have n3 : g ≠ B := by omega
  clear a4 b4 KB3
  go_wp2_with fail
  refine (write_is A4.out fit_zero 16898 9 (by omega) (by omega) wr9).mono ?_
  rintro e w5 ⟨rfl, a5, f5, u5⟩
  have A5 := Lib.hid a5
  have F5 := Lib.hid f5
  have D5 := Lib.hid (u5.out D4.out hg)
  have B5 := Lib.hid (u5.out B4.out hgw)
  have KB5 := Lib.hid (u5.blk KB4.out (fun e => n3 e.symm))
  clear a5 f5 u5 A4 D4 B4 KB4
  have SV := Lib.hid (savedPo_any A5.out F5.out.rng)
  have hg5 : g < w5.heap.size := A5.out.lt
  go_wp2_with fail
  refine SV.out.mono ?_
  rintro e w6 ⟨sv, rfl, hs, b6⟩
  have HS := Lib.hid hs
  have A6 := Lib.hid (A5.out.kept b6)
  have D6 := Lib.hid (D5.out.trans (b6.mono D5.out.size))
  have B6 := Lib.hid (B5.out.trans (b6.mono B5.out.size))
  have KB6 := Lib.hid (KB5.out.kept b6)
  clear hs b6 SV A5 D5 B5 KB5
  have NR := Lib.hid (newR_any w6 bv (portB s) _ (HF.out.kept D6.out) NE.out (portB_byts s) (by rw [LE.out]; omega))
  go_wp2_with fail
  refine NR.out.mono ?_
  rintro e z0 ⟨gr, bg, cc, rfl, hgr, hbg, hr, q0⟩
  have HR := Lib.hid hr
  have Z0 := Lib.hid q0
  have n1 : g ≠ gr := by have := A6.out.lt; omega
  have n2 : g ≠ bg := by have := A6.out.lt; omega
  have n4 : B ≠ gr := by have := KB6.out.lt; omega
  have hgrw : w.heap.size ≤ gr := Nat.le_trans B6.out.size hgr
  have hgr3 : w3.heap.size ≤ gr := Nat.le_trans D6.out.size hgr
  clear hr NR
  go_wp2_with fail
  have HR : Hid (Rd z0 gr bg cc 0 (portB s)) := HR
  have R0 : Hid (∀ z, Below z0.heap.size z0 z → Rd z gr bg cc 0 (portB s)) := Lib.hid (fun z hz => HR.out.kept hz)
  have Z0' := Lib.hid q0
  obtain ⟨zz, hzz⟩ : ∃ zz, zz = z0 := ⟨_, rfl⟩
  have HZZ := Lib.hid hzz
  have Z0 : Hid (Below zz.heap.size zz z0) := Lib.hid (by rw [hzz]; exact Below.refl _ _)
  have R0 : Hid (∀ z, Below zz.heap.size zz z → Rd z gr bg cc 0 (portB s)) := Lib.hid (by rw [hzz]; exact R0.out)
  have Z0' : Hid (Below w6.heap.size w6 zz) := Lib.hid (by rw [hzz]; exact Z0'.out)
  clear q0 HR hzz HZZ
  go_wp2_with fail
  refine (nRead 16406 0 z0).mono ?_
  rintro e z1 ⟨rfl, q1⟩
  have Z1 := Lib.hid (Z0.out.trans (q1.mono Z0.out.size))
  clear q1 Z0
  go_wp2_with fail
  refine (nWrite 16896 1 z1).mono ?_
  rintro e z2 ⟨rfl, q2⟩
  have Z2 := Lib.hid (Z1.out.trans (q2.mono Z1.out.size))
  clear q2 Z1
  go_wp2_with fail
  refine (nAdvance 1 z2).mono ?_
  rintro e z3 ⟨rfl, q3⟩
  have Z3 := Lib.hid (Z2.out.trans (q3.mono Z2.out.size))
  clear q3 Z2
  go_wp2_with fail
  refine (nNow z3).mono ?_
  rintro e z4 ⟨rfl, q4⟩
  have Z4 := Lib.hid (Z3.out.trans (q4.mono Z3.out.size))
  clear q4 Z3
  go_wp2_with fail
  refine (nNMI z4).mono ?_
  rintro e z5 ⟨rfl, q5⟩
  have Z5 := Lib.hid (Z4.out.trans (q5.mono Z4.out.size))
  clear q5 Z4
  go_wp2_with fail
  refine (nIRQ z5).mono ?_
  rintro e z6 ⟨rfl, q6⟩
  have Z6 := Lib.hid (Z5.out.trans (q6.mono Z5.out.size))
  clear q6 Z5
  go_wp2_with fail
  refine (nFast z6).mono ?_
  rintro e z7 ⟨rfl, q7⟩
  have Z7 := Lib.hid (Z6.out.trans (q7.mono Z6.out.size))
  clear q7 Z6
  go_wp2_with fail
  refine (nPad 0 1 z7).mono ?_
  rintro e z8 ⟨rfl, q8⟩
  have Z8 := Lib.hid (Z7.out.trans (q8.mono Z7.out.size))
  clear q8 Z7
  go_wp2_with fail
  refine (nLoad _ z8).mono ?_
  rintro e z9 ⟨rfl, q9⟩
  have Z9 := Lib.hid (Z8.out.trans (q9.mono Z8.out.size))
  clear q9 Z8
  go_wp2_with fail
  refine (nOver true z9).mono ?_
  rintro e z10 ⟨rfl, q10⟩
  have Z10 := Lib.hid (Z9.out.trans (q10.mono Z9.out.size))
  clear q10 Z9
  have rz := R0.out _ Z10.out
  have zb := Z0'.out.trans (Z10.out.mono Z0'.out.size)
  have A7 := Lib.hid (A6.out.kept zb)
  have D7 := Lib.hid (D6.out.trans (zb.mono D6.out.size))
  have B7 := Lib.hid (B6.out.trans (zb.mono B6.out.size))
  have KB7 := Lib.hid (KB6.out.kept zb)
  have LD := Lib.hid (loadPo_any A7.out RR.out II.out rz n1 n2)
  have ZB := Lib.hid zb
  clear rz zb R0 Z10 Z0' A6 D6 B6 KB6
  go_wp2_with fail
  refine LD.out.mono ?_
  rintro e w8 ⟨rfl, x8, r8, u8⟩
  have X8 := Lib.hid x8
  have HS8 := Lib.hid (HS.out.mid ZB.out u8.2.2.2.2 hg5 hgr)
  have D8 : Hid (Below w3.heap.size w3 w8) := Lib.hid (D7.out.trans ⟨u8.1, u8.2.1, u8.2.2.1, u8.2.2.2.1, fun i hi => u8.2.2.2.2 i (Nat.lt_of_lt_of_le hi D7.out.size) (by omega) (by omega)⟩)
  have B8 : Hid (Below w.heap.size w w8) := Lib.hid (B7.out.trans ⟨u8.1, u8.2.1, u8.2.2.1, u8.2.2.2.1, fun i hi => u8.2.2.2.2 i (Nat.lt_of_lt_of_le hi B7.out.size) (by omega) (by omega)⟩)
  have KB8 : Hid (Blk w8 B 44 cs) := Lib.hid ((u8.2.2.2.2 B KB7.out.lt n4 (fun e => n3 e.symm)).trans KB7.out)
  have CA := Lib.hid (can_any (by rw [HCS.out]; exact KB8.out))
  obtain ⟨ec, hec⟩ : ∃ ec : Int, (if canP s = true then (0 : Int) else 250) = ec := ⟨_, rfl⟩
  have HEC := Lib.hid hec
  rw [hec]
  clear x8 r8 u8 LD A7 D7 B7 KB7 HS ZB hec
  obtain ⟨cn, hcn⟩ : ∃ cn, canP s = cn := ⟨_, rfl⟩
  rw [hcn] at CA X8 HEC
  clear hcn
  have FINISH : Hid (∀ (t : Pt), Rng t → ∀ W, Po W g t → ∀ (l : List Int) u N, FileAt N (fileOf l) u W → l = portB t → ∀ w12 v, FileAt W.heap.size (fileOf (portB t)) v w12 → Below W.heap.size W w12 → Calls Try.prog 18 #[v, u] w12 (Told w12 true)) := Lib.hid (by
    intro t _ W _ l u N hu e w12 v hv hb
    subst e
    have := bytesF_any hv (hu.kept hb) (by rw [file_len, portB_len]; omega) (by rw [file_len, portB_len]; omega)
    rwa [decide_eq_true rfl] at this)
  cases cn with
  | true =>
    have hz : ec = 0 := by rw [← HEC.out]; rfl
    subst hz
    have XX : Hid (Po w8 g { s with soon := 0 }) := Lib.hid X8.out
    clear HEC X8
    go_wp2_with fail
    refine CA.out.mono ?_
    rintro e w9 ⟨rfl, b9⟩
    have X9 := Lib.hid (XX.out.kept b9)
    have FD := Lib.hid (HF.out.kept (D8.out.trans (b9.mono D8.out.size)))
    have B9 := Lib.hid (B8.out.trans (b9.mono B8.out.size))
    have S2 := Lib.hid (savedPo_any X9.out (rng_soon RR.out))
    clear b9 CA XX
    go_wp2_with fail
    refine S2.out.mono ?_
    rintro e w12 ⟨v2, rfl, hf2, b12⟩
    have BY := Lib.hid (FINISH.out _ (rng_soon RR.out) _ X9.out _ _ _ FD.out (portB_soon s).symm w12 v2 hf2 b12)
    have B12 := Lib.hid (B9.out.trans (b12.mono B9.out.size))
    clear hf2 b12 S2
    go_wp2_with fail
    refine BY.out.mono ?_
    rintro e w13 ⟨rfl, b13⟩
    have B13 := Lib.hid (B12.out.trans (b13.mono B12.out.size))
    clear b13 BY
    go_wp2_with fail
    refine (AW.out _).mono ?_
    rintro e w14 ⟨rfl, b14⟩
    have B14 := Lib.hid (B13.out.trans (b14.mono B13.out.size))
    clear b14
    go_wp2_with fail
    go_ret
    exact ⟨rfl, B14.out⟩
  | false =>
    have hz : ec = 250 := by rw [← HEC.out]; rfl
    subst hz
    have XX : Hid (Po w8 g p9) := Lib.hid X8.out
    clear HEC X8
    go_wp2_with fail
    refine CA.out.mono ?_
    rintro e w9 ⟨rfl, b9⟩
    have X9 := Lib.hid (XX.out.kept b9)
    have HS9 := Lib.hid (HS8.out.kept b9)
    have B9 := Lib.hid (B8.out.trans (b9.mono B8.out.size))
    have S2 := Lib.hid (savedPo_any X9.out F5.out.rng)
    clear b9 CA XX
    go_wp2_with fail
    refine S2.out.mono ?_
    rintro e w12 ⟨v2, rfl, hf2, b12⟩
    have BY := Lib.hid (FINISH.out _ F5.out.rng _ X9.out _ _ _ HS9.out rfl w12 v2 hf2 b12)
    have B12 := Lib.hid (B9.out.trans (b12.mono B9.out.size))
    clear hf2 b12 S2
    go_wp2_with fail
    refine BY.out.mono ?_
    rintro e w13 ⟨rfl, b13⟩
    have B13 := Lib.hid (B12.out.trans (b13.mono B12.out.size))
    clear b13 BY
    go_wp2_with fail
    refine (AW.out _).mono ?_
    rintro e w14 ⟨rfl, b14⟩
    have B14 := Lib.hid (B13.out.trans (b14.mono B13.out.size))
    clear b14
    go_wp2_with fail
    go_ret
    exact ⟨rfl, B14.out⟩
open Go.ChangeShapes Go.WideShapes Go.ChangeAt
set_option maxHeartbeats 4000000 in
theorem walk (H : Type) (enc : TypeId × Value → H) (W : World) (base : Nat) (v0 : Value) {d0 : DataW H} {p0 : List MemPlace}
    (k0 : Value.okWide Try.prog W .any base 44 v0) (h0 : DataW.Trod enc Try.prog W 0 (fun _ => true) true 44 v0 d0 p0) :
    Calls Try.prog 7 #[v0] W fun e w' => e = .returned (.bool true) ∧ Below W.heap.size W w' := by
  obtain ⟨cs, n, rfl, hlen, hf⟩ := openCells Try.underlying44 k0 h0
  have hl : cs.length = 22 := hlen.trans (by kernel_rfl)
  obtain ⟨y0, t0⟩ := hf 0 _ rfl
  obtain ⟨y1, t1⟩ := hf 1 _ rfl
  obtain ⟨y2, t2⟩ := hf 2 _ rfl
  obtain ⟨y3, t3⟩ := hf 3 _ rfl
  obtain ⟨y4, t4⟩ := hf 4 _ rfl
  obtain ⟨y5, t5⟩ := hf 5 _ rfl
  obtain ⟨y6, t6⟩ := hf 6 _ rfl
  obtain ⟨y7, t7⟩ := hf 7 _ rfl
  obtain ⟨y8, t8⟩ := hf 8 _ rfl
  obtain ⟨y9, t9⟩ := hf 9 _ rfl
  obtain ⟨y10, t10⟩ := hf 10 _ rfl
  obtain ⟨y11, t11⟩ := hf 11 _ rfl
  obtain ⟨y12, t12⟩ := hf 12 _ rfl
  obtain ⟨y13, t13⟩ := hf 13 _ rfl
  obtain ⟨y14, t14⟩ := hf 14 _ rfl
  obtain ⟨y15, t15⟩ := hf 15 _ rfl
  obtain ⟨y16, t16⟩ := hf 16 _ rfl
  obtain ⟨y17, t17⟩ := hf 17 _ rfl
  obtain ⟨y18, t18⟩ := hf 18 _ rfl
  obtain ⟨x0, e0, w0⟩ := cellInt (o := 0) Try.underlying3 t0
  obtain ⟨x1, e1, w1⟩ := cellInt (o := 1) Try.underlying3 t1
  obtain ⟨x2, e2, w2⟩ := cellInt (o := 2) Try.underlying5 t2
  obtain ⟨x3, e3, w3⟩ := cellInt (o := 3) Try.underlying5 t3
  obtain ⟨x4, e4, w4⟩ := cellInt (o := 4) Try.underlying5 t4
  obtain ⟨x5, e5, w5⟩ := cellInt (o := 5) Try.underlying22 t5
  obtain ⟨x6, e6, w6⟩ := cellInt (o := 6) Try.underlying22 t6
  obtain ⟨x7, e7, w7⟩ := cellInt (o := 7) Try.underlying22 t7
  obtain ⟨x8, e8, w8⟩ := cellInt (o := 8) Try.underlying22 t8
  obtain ⟨x9, e9, w9⟩ := cellInt (o := 9) Try.underlying22 t9
  obtain ⟨x10, e10⟩ := cellBool (o := 10) Try.underlying4 t10
  obtain ⟨x11, e11⟩ := cellBool (o := 11) Try.underlying4 t11
  obtain ⟨x12, e12⟩ := cellBool (o := 12) Try.underlying4 t12
  obtain ⟨x13, e13, w13⟩ := cellRow (o := 13) Try.underlying42 Try.underlying22 (by kernel_rfl) t13 0 (by omega)
  obtain ⟨x14, e14, w14⟩ := cellRow (o := 13) Try.underlying42 Try.underlying22 (by kernel_rfl) t13 1 (by omega)
  obtain ⟨x15, e15, w15⟩ := cellRow (o := 15) Try.underlying42 Try.underlying22 (by kernel_rfl) t14 0 (by omega)
  obtain ⟨x16, e16, w16⟩ := cellRow (o := 15) Try.underlying42 Try.underlying22 (by kernel_rfl) t14 1 (by omega)
  obtain ⟨x17, e17, w17⟩ := cellRow (o := 17) Try.underlying42 Try.underlying22 (by kernel_rfl) t15 0 (by omega)
  obtain ⟨x18, e18, w18⟩ := cellRow (o := 17) Try.underlying42 Try.underlying22 (by kernel_rfl) t15 1 (by omega)
  obtain ⟨x19, e19⟩ := cellBool (o := 19) Try.underlying4 t16
  obtain ⟨x20, e20⟩ := cellBool (o := 20) Try.underlying4 t17
  obtain ⟨x21, e21⟩ := cellBool (o := 21) Try.underlying4 t18
  have r0 := wf_i64 w0
  have r1 := wf_i64 w1
  have r2 := wf_u8 w2
  have r3 := wf_u8 w3
  have r4 := wf_u8 w4
  have r5 := wf_u16 w5
  have r6 := wf_u16 w6
  have r7 := wf_u16 w7
  have r8 := wf_u16 w8
  have r9 := wf_u16 w9
  have r13 := wf_u16 w13
  have r14 := wf_u16 w14
  have r15 := wf_u16 w15
  have r16 := wf_u16 w16
  have r17 := wf_u16 w17
  have r18 := wf_u16 w18
  match cs, hl, e0, e1, e2, e3, e4, e5, e6, e7, e8, e9, e10, e11, e12, e13, e14, e15, e16, e17, e18, e19, e20, e21 with
  | [a0, a1, a2, a3, a4, a5, a6, a7, a8, a9, a10, a11, a12, a13, a14, a15, a16, a17, a18, a19, a20, a21], _, e0, e1, e2, e3, e4, e5, e6, e7, e8, e9, e10, e11, e12, e13, e14, e15, e16, e17, e18, e19, e20, e21 =>
    simp at e0 e1 e2 e3 e4 e5 e6 e7 e8 e9 e10 e11 e12 e13 e14 e15 e16 e17 e18 e19 e20 e21
    subst e0 e1 e2 e3 e4 e5 e6 e7 e8 e9 e10 e11 e12 e13 e14 e15 e16 e17 e18 e19 e20 e21
    refine law ⟨x0, x1, x2, x3, x4, x5, x6, x7, x8, x9, x10, x11, x12, x13, x14, x15, x16, x17, x18, x19, x20, x21, 0⟩ ⟨fun x hx => ?_, fun x hx => ?_⟩ ⟨r0.1, r0.2, r1.1, r1.2⟩ W
    · simp only [wVals, List.mem_cons, List.not_mem_nil, or_false] at hx
      rcases hx with rfl | rfl | rfl | rfl | rfl | rfl | rfl | rfl | rfl | rfl | rfl
      · exact r5
      · exact r6
      · exact r7
      · exact r8
      · exact r9
      · exact r13
      · exact r14
      · exact r15
      · exact r16
      · exact r17
      · exact r18
    · simp only [bVals, List.mem_cons, List.not_mem_nil, or_false] at hx
      rcases hx with rfl | rfl | rfl
      · exact r2
      · exact r3
      · exact r4
end Go.Proofs.Ytniagcbajjmopaa.portsLoads
