/- ReachSettles: the walk. -/
import Derived.Test.YtmejjejafimhfaaReachV
import Derived.Test.YtmejjejafimhfaaOpen
import Derived.WalkKit
import Derived.ProofKit
import Derived.OpenShut
import Derived.Lib.SmallJoins
namespace Go.Proofs.Ytmejjejafimhfaa.reachSettles
open Go.RowKit
set_option linter.unusedVariables false
set_option linter.unusedSimpArgs false
set_option maxRecDepth 100000

theorem setR_idem (r : Rg) (h : r.ok) : setR (setR r) = setR r := by
  obtain ⟨a0, a1, x0, x1, y0, y1, s0, s1, d0, d1, c0, c1, b0, b1, k0, k1, p0, p1⟩ := h
  obtain ⟨q0, q1, q2, q3⟩ := orMX_is r.p p0 p1
  have hp : setP (setP r.p r.e) r.e = setP r.p r.e := by unfold setP; cases r.e <;> simp [q3]
  have hx : ∀ x : Int, setX (setX x r.p r.e) (setP r.p r.e) r.e = setX x r.p r.e := by
    intro x
    unfold setX
    rw [hp]
    split <;> omega
  have hs : setS (setS r.s r.e) r.e = setS r.s r.e := by
    unfold setS; cases r.e
    · rfl
    · simp only [if_true]; omega
  unfold setR
  simp only [hp, hs, hx]

theorem settle_r (r : Rg) (h : r.ok) (w : World) : Calls Try.prog 9 #[rV r] w fun e w' => e = .returned (rV (setR r)) ∧ Below w.heap.size w w' := by
  obtain ⟨a0, a1, x0, x1, y0, y1, s0, s1, d0, d1, c0, c1, b0, b1, k0, k1, p0, p1⟩ := h
  exact rsettle r.a r.x r.y r.s r.d r.pc r.b r.k r.p r.e w x0 x1 y0 y1 s0 s1 p0 p1
theorem settle_d (r : Rg) (h : r.ok) (w : World) : Calls Try.prog 10 #[rV r] w fun e w' => e = .returned (rV (setR r)) ∧ Below w.heap.size w w' := by
  obtain ⟨a0, a1, x0, x1, y0, y1, s0, s1, d0, d1, c0, c1, b0, b1, k0, k1, p0, p1⟩ := h
  exact dsettle r.a r.x r.y r.s r.d r.pc r.b r.k r.p r.e w x0 x1 y0 y1 s0 s1 p0 p1
theorem settle_2 (r : Rg) (h : r.ok) (w : World) : Calls Try.prog 9 #[rV (setR r)] w fun e w' => e = .returned (rV (setR r)) ∧ Below w.heap.size w w' := by
  have := settle_r (setR r) (setR_ok r h) w
  rwa [setR_idem r h] at this

set_option maxHeartbeats 4000000 in
theorem yes (r : Rg) (n ad : Int) (bk : Bool) (w : World) (h : r.ok) (n0 : 0 ≤ n) (n1 : n ≤ 4294967295) (a0 : 0 ≤ ad) (a1 : ad ≤ 4294967295) :
    Calls Try.prog 4 #[rV r, .int .u32 n, placeV ad bk] w fun e w' => e = .returned (.bool true) ∧ Below w.heap.size w w' := by
  have d0 : 0 ≤ r.d := h.2.2.2.2.2.2.2.2.1
  have d1 : r.d ≤ 65535 := h.2.2.2.2.2.2.2.2.2.1
  have S1 := Lib.hid (settle_r r h)
  have S2 := Lib.hid (settle_d r h)
  have S3 := Lib.hid (settle_2 r h)
  have D1 := Lib.hid (fun w => rdirect r.a r.x r.y r.s r.d r.pc r.b r.k r.p n r.e w d0 d1 n0 n1)
  have D2 := Lib.hid (fun w => ddirect r.a r.x r.y r.s r.d r.pc r.b r.k r.p n r.e w d0 d1 n0 n1)
  have N1 := Lib.hid (fun w => rnext ad bk w a0 a1)
  have N2 := Lib.hid (fun w => dnext ad bk w a0 a1)
  clear h d0 d1 n0 n1 a0 a1
  obtain ⟨t, ht⟩ : ∃ t, setR r = t := ⟨_, rfl⟩
  rw [ht] at S1 S2 S3
  obtain ⟨z, hz⟩ : ∃ z, directOf r.d r.e n = z := ⟨_, rfl⟩
  rw [hz] at D1 D2
  obtain ⟨q, hq⟩ : ∃ q, nextOf ad bk = q := ⟨_, rfl⟩
  rw [hq] at N1 N2
  clear ht hz hq
  obtain ⟨a, x, y, s, d, pc, b, k, p, e⟩ := r
  obtain ⟨ta, tx, ty, ts, td, tpc, tb, tk, tp, te⟩ := t
  simp only at S1 S2 S3 D1 D2 
  go_enter Try.func4, Try.ntmps4
  go_wp2_with fail
  refine wp_region_more (by kernel_rfl) (by kernel_rfl) ?_
  repeat (go_big_quiet_step ((first
    | (go_at_call 9; first | exact quiet_more (S1.out _) | exact quiet_more (S3.out _))
    | (go_at_call 10; exact quiet_more (S2.out _))
    | (go_at_call 11; exact quiet_more (D1.out _))
    | (go_at_call 12; exact quiet_more (D2.out _))
    | (go_at_call 13; exact quiet_more (N1.out _))
    | (go_at_call 14; exact quiet_more (N2.out _))
    | (go_at_call 8; exact quiet_more (awakeR _)))))
  refine wpQuiet_nil ?_
  rintro _ ⟨nq, rfl⟩
  go_wp2
  go_ret
  exact ⟨rfl, by repeat (first | exact Below.refl _ _ | apply belowM | apply belowA)⟩
open Go.ChangeShapes Go.WideShapes Go.ChangeAt
/-- Registers that came in, opened. -/
theorem open_regs {H : Type} {enc : TypeId × Value → H} {W : World} {base : Nat} {v : Value} {d : DataW H} {p : List MemPlace} (hk : Value.okWide Try.prog W .any base 26 v) (h : DataW.Trod enc Try.prog W 0 (fun _ => true) true 26 v d p) :
    ∃ r : Rg, v = rV r ∧ r.ok := by
  obtain ⟨cs, rfl, hsz⟩ := okWide_struct Try.underlying26 hk
  have hsz' : cs.size = 10 := hsz.trans (by kernel_rfl)
  obtain ⟨l⟩ := cs
  match l, hsz' with
  | [v0, v1, v2, v3, v4, v5, v6, v7, v8, v9], _ =>
    obtain ⟨fuel, hf⟩ := h
    obtain ⟨xs, n, _, hx, hl, hlen, hq⟩ := DataW.trod_struct Try.underlying26 hf
    have hlen' : xs.length = 10 := hlen
    have C16 : Try.prog.cellsOf 24 = 1 := by kernel_rfl
    have C8 : Try.prog.cellsOf 5 = 1 := by kernel_rfl
    have CB : Try.prog.cellsOf 4 = 1 := by kernel_rfl
    have h0 := hq 0 _ rfl
    rw [List.getElem?_eq_getElem (show 0 < xs.length by omega)] at h0
    simp [Value.cells, C16, C8, CB] at h0
    obtain ⟨n0, e0, _, w0⟩ := DataW.trod_int Try.underlying24 h0
    simp at e0
    subst e0
    have h1 := hq 1 _ rfl
    rw [List.getElem?_eq_getElem (show 1 < xs.length by omega)] at h1
    simp [Value.cells, C16, C8, CB] at h1
    obtain ⟨n1, e1, _, w1⟩ := DataW.trod_int Try.underlying24 h1
    simp at e1
    subst e1
    have h2 := hq 2 _ rfl
    rw [List.getElem?_eq_getElem (show 2 < xs.length by omega)] at h2
    simp [Value.cells, C16, C8, CB] at h2
    obtain ⟨n2, e2, _, w2⟩ := DataW.trod_int Try.underlying24 h2
    simp at e2
    subst e2
    have h3 := hq 3 _ rfl
    rw [List.getElem?_eq_getElem (show 3 < xs.length by omega)] at h3
    simp [Value.cells, C16, C8, CB] at h3
    obtain ⟨n3, e3, _, w3⟩ := DataW.trod_int Try.underlying24 h3
    simp at e3
    subst e3
    have h4 := hq 4 _ rfl
    rw [List.getElem?_eq_getElem (show 4 < xs.length by omega)] at h4
    simp [Value.cells, C16, C8, CB] at h4
    obtain ⟨n4, e4, _, w4⟩ := DataW.trod_int Try.underlying24 h4
    simp at e4
    subst e4
    have h5 := hq 5 _ rfl
    rw [List.getElem?_eq_getElem (show 5 < xs.length by omega)] at h5
    simp [Value.cells, C16, C8, CB] at h5
    obtain ⟨n5, e5, _, w5⟩ := DataW.trod_int Try.underlying24 h5
    simp at e5
    subst e5
    have h6 := hq 6 _ rfl
    rw [List.getElem?_eq_getElem (show 6 < xs.length by omega)] at h6
    simp [Value.cells, C16, C8, CB] at h6
    obtain ⟨n6, e6, _, w6⟩ := DataW.trod_int Try.underlying5 h6
    simp at e6
    subst e6
    have h7 := hq 7 _ rfl
    rw [List.getElem?_eq_getElem (show 7 < xs.length by omega)] at h7
    simp [Value.cells, C16, C8, CB] at h7
    obtain ⟨n7, e7, _, w7⟩ := DataW.trod_int Try.underlying5 h7
    simp at e7
    subst e7
    have h8 := hq 8 _ rfl
    rw [List.getElem?_eq_getElem (show 8 < xs.length by omega)] at h8
    simp [Value.cells, C16, C8, CB] at h8
    obtain ⟨n8, e8, _, w8⟩ := DataW.trod_int Try.underlying5 h8
    simp at e8
    subst e8
    have h9 := hq 9 _ rfl
    rw [List.getElem?_eq_getElem (show 9 < xs.length by omega)] at h9
    simp [Value.cells, C16, C8, CB] at h9
    obtain ⟨n9, e9, _⟩ := DataW.trod_bool Try.underlying4 h9
    simp at e9
    subst e9
    have b0 := wf_u16 w0
    have b1 := wf_u16 w1
    have b2 := wf_u16 w2
    have b3 := wf_u16 w3
    have b4 := wf_u16 w4
    have b5 := wf_u16 w5
    have b6 := wf_u8 w6
    have b7 := wf_u8 w7
    have b8 := wf_u8 w8
    exact ⟨⟨n0, n1, n2, n3, n4, n5, n6, n7, n8, n9⟩, rfl, b0.1, b0.2, b1.1, b1.2, b2.1, b2.2, b3.1, b3.2, b4.1, b4.2, b5.1, b5.2, b6.1, b6.2, b7.1, b7.2, b8.1, b8.2⟩

theorem walk (H : Type) (enc : TypeId × Value → H) (W : World) (base : Nat) (v0 v1 v2 : Value) {d0 d1 d2 : DataW H} {p0 p1 p2 : List MemPlace} (k0 : Value.okWide Try.prog W .any base 26 v0) (h0 : DataW.Trod enc Try.prog W 0 (fun _ => true) true 26 v0 d0 p0) (k1 : Value.okWide Try.prog W .any base 29 v1) (h1 : DataW.Trod enc Try.prog W 0 (fun _ => true) true 29 v1 d1 p1) (k2 : Value.okWide Try.prog W .any base 31 v2) (h2 : DataW.Trod enc Try.prog W 0 (fun _ => true) true 31 v2 d2 p2) :
    Calls Try.prog 4 #[v0, v1, v2] W fun e w' => e = .returned (.bool true) ∧ Below W.heap.size W w' := by
  obtain ⟨r, rfl, ok⟩ := open_regs k0 h0
  obtain ⟨c0, c1, y0, y1, m, rfl, rfl, rfl, hy0, hy1⟩ := Go.Joins.open_agg2 Try.underlying31 (by kernel_rfl) (by kernel_rfl) k2 h2
  obtain ⟨ad, e0, _, w0⟩ := DataW.trod_int Try.underlying29 hy0
  obtain ⟨bk, e1, _⟩ := DataW.trod_bool Try.underlying4 hy1
  simp at e0 e1
  subst e0 e1
  obtain ⟨n, rfl, rfl, rfl, w1⟩ := open_int Try.underlying29 k1 h1
  have b0 := wf_u32 w0
  have b1 := wf_u32 w1
  exact yes r n ad bk W ok b1.1 b1.2 b0.1 b0.2
end Go.Proofs.Ytmejjejafimhfaa.reachSettles
