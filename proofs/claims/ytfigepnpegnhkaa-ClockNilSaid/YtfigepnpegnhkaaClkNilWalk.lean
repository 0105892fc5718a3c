/- The walk of ClockNil. -/
import Derived.Test.YtfigepnpegnhkaaClkA
import Derived.OpenShut
import Derived.ChangeOld
namespace Go.Proofs.Ytfigepnpegnhkaa
open Go Go.RowKit Go.Shelf
attribute [local go_sem] Oper.semAt_some
set_option linter.unusedVariables false
set_option linter.unusedSimpArgs false
set_option maxRecDepth 100000
/-- What a range over no clock sees: nothing. -/
theorem none_in (w0 : World) (Bx : Nat) (hx : w0.cell? ⟨Bx, 0, none⟩ = some (.pointer none)) (n0 B : Nat) :
    SeqB Try.prog 33 #[.pointer (some ⟨Bx, 0, none⟩)] (fun i : Nat => #[.int .i64 i]) n0 B (fun _ _ => False) (fun xs => xs = []) (fun _ => True) w0 := by
  intro lp J Jx W hW hn0 hB0 hJ hJx hY h0
  have x0 := keepC hW hx
  have HJ := Lib.hid hJ
  have H0 := Lib.hid h0
  clear hx hY hJ hJx h0 hW
  refine callsIn_of_wp Try.func33 rfl trivial ?_ rfl
  simp only [Try.ntmps33, List.size_toArray, List.length_cons, List.length_nil, Nat.reduceAdd, Nat.reduceSub, Array.replicate_succ, Array.replicate_zero, List.push_toArray, List.append_toArray, List.nil_append, List.cons_append]
  gi_wp2
  refine ⟨trivial, rfl, ?_⟩
  refine (callsIn_wide.2 (nOrderList W)).mono ?_
  rintro e w2 ⟨rfl, b2⟩
  have J2 := Lib.hid (HJ.out _ _ _ H0.out b2)
  clear b2
  gi_wp2
  gi_loopw [8] (fun i wr => i = .int .i64 0 ∧ wr = w2) (fun _ _ => 0)
  case atStart => exact ⟨rfl, rfl⟩
  case round =>
    obtain ⟨rfl, rfl⟩ := hrel
    gi_wp2
    go_end0
    exact ⟨⟨_, rfl⟩, Or.inl ⟨[], rfl, J2.out⟩⟩
theorem eq_func_nil0 {P : Program} {t : TypeId} {x : Array TypeId} {y : Array TypeId} {z : Bool} (h : P.underlying t = some (.func x y z)) (d : Nat) (f : Fn) (a b : Array Value) (w : World) : (Op.equalIn (d + 1) t (.func f a b) .nilFunc).run P w = .ok false w := by
  simp [Op.equalIn, run_underlying h]
theorem eq_func_nil {P : Program} {t : TypeId} {d : TypeDesc} (h : P.underlying t = some d) (hd : ∃ a b c, d = .func a b c) (f : Fn) (a b : Array Value) (w : World) : (binOp .eql t (.func f a b) .nilFunc).run P w = .ok (.bool false) w := by
  obtain ⟨x, y, z, rfl⟩ := hd
  simp only [binOp]
  simp [Op.equal, Op.maxDepth, eq_func_nil0 h 9999 f a b w]
set_option maxHeartbeats 4000000 in
theorem clockNil_law (i n : Int) (w : World) : Calls Try.prog 5 #[.int .i64 i, .int .i64 n] w (Says w (.bool true)) := by
  refine callsIn_wide.1 (?_ : CallsIn Fence.wide 0 _ _ _ _ _)
  refine callsIn_of_wp_marks Try.func5 rfl trivial ?_ rfl
  simp only [Try.ntmps5, List.size_toArray, List.length_cons, List.length_nil, Nat.reduceAdd, Nat.reduceSub, Array.replicate_succ, Array.replicate_zero, List.push_toArray, List.append_toArray, List.nil_append, List.cons_append]
  try simp only [List.append_eq, List.cons_append, List.nil_append]
  gi_wp2
  refine ⟨trivial, rfl, ?_⟩
  refine (callsIn_wide.2 (nScale w i)).mono ?_
  rintro e w1 ⟨rfl, b1⟩
  have B1 := Lib.hid b1
  clear b1
  gi_wp2
  refine ⟨trivial, rfl, ?_⟩
  refine (callsIn_wide.2 (nAt w1 i)).mono ?_
  rintro e w2 ⟨rfl, b2⟩
  have B2 := Lib.hid (B1.out.trans (b2.mono B1.out.size))
  clear b2 B1
  gi_wp2
  refine ⟨trivial, rfl, ?_⟩
  refine (callsIn_wide.2 (nRoom w2 i)).mono ?_
  rintro e w3 ⟨rfl, b3⟩
  have B3 := Lib.hid (B2.out.trans (b3.mono B2.out.size))
  clear b3 B2
  gi_wp2
  refine ⟨trivial, rfl, ?_⟩
  refine (callsIn_wide.2 (nOrder w3)).mono ?_
  rintro e w4 ⟨rfl, hw4⟩
  obtain ⟨Bx, hB⟩ : ∃ B, B = w3.heap.size := ⟨_, rfl⟩
  have x4 : w4.cell? ⟨Bx, 0, none⟩ = some (.pointer none) := by rw [hw4, hB]; simp [go_sem]
  have B4 : Hid (Below w.heap.size w w4) := Lib.hid (by rw [hw4]; exact belowA B3.out _)
  rw [← hB]
  clear hw4 hB B3
  have qF := fun f a b w => eq_func_nil Try.underlying41 ⟨_, _, _, rfl⟩ f a b w
  gi_wp2
  clear qF
  obtain ⟨W5, hW⟩ : ∃ W5, W5 = w4.alloc (.cells #[.int .i64 0] 3) := ⟨_, rfl⟩
  obtain ⟨By, hY⟩ : ∃ B, B = w4.heap.size := ⟨_, rfl⟩
  have x5 : W5.cell? ⟨Bx, 0, none⟩ = some (.pointer none) := by rw [hW]; exact keepAlloc x4 _
  have y5 : W5.cell? ⟨By, 0, none⟩ = some (.int .i64 0) := by rw [hW, hY]; simp [go_sem]
  have B5 : Hid (Below w.heap.size w W5) := Lib.hid (by rw [hW]; exact belowA B4.out _)
  try rw [← hW]
  try rw [← hY]
  clear hW hY B4 x4
  generalize hA : Act.mk _ _ = A
  refine wp_rangeB (gf := 33) (lb := #[.pointer (some ⟨Bx, 0, none⟩)]) (by rw [← hA]; rfl) (enters_of Try.func33 (by kernel_rfl) rfl)
    (n0 := 0) (B0 := 0) (by omega)
    (none_in W5 Bx x5 0 0) (Below.refl _ _) (by omega) (fun _ => rfl)
    (fun pre w' => Below W5.heap.size W5 w') (fun c pre w' => False)
    ?hI ?hIx ?h0
    (fun i act w' => True)
    ?hP ?assign ?body ?done ?stop
  case hI => rintro pre C D p1 hb; exact p1.trans hb
  case hIx => rintro c pre C D h hb; exact h
  case h0 => exact Below.refl _ _
  case hP => rintro a act C D _ k; trivial
  case assign =>
    intro a W6 K hsz hK
    subst hA
    have HK := Lib.hid hK
    clear hK
    gi_wp2
    exact HK.out _ _ trivial (Below.refl _ _)
  case body => rintro pre i act W2 _ _ hok; exact hok.elim
  case done =>
    rintro xs W6 hxs p1 hd
    subst hA
    have y6 := keepC p1 y5
    have B6 := Lib.hid (B5.out.trans (p1.mono B5.out.size))
    have HD := Lib.hid hd
    have HS5 := B5.out.size
    clear p1 hd x5 y5
    gi_wp2
    refine ⟨trivial, rfl, ?_⟩
    refine (callsIn_wide.2 (nLen W6)).mono ?_
    rintro e w7 ⟨rfl, b7⟩
    have B7 := Lib.hid (B6.out.trans (b7.mono B6.out.size))
    have y7 := keepC b7 y6
    have D7 := Lib.hid ((b7.block _ (Array.getElem?_eq_some_iff.1 HD.out |>.1)).trans HD.out)
    clear b7 B6 y6 HD
    gi_wp2
    refine ⟨trivial, rfl, ?_⟩
    refine (callsIn_wide.2 (nAdd w7 i n)).mono ?_
    rintro e w8 ⟨rfl, b8⟩
    have B8 := Lib.hid (B7.out.trans (b8.mono B7.out.size))
    have y8 := keepC b8 y7
    have D8 := Lib.hid ((b8.block _ (Array.getElem?_eq_some_iff.1 D7.out |>.1)).trans D7.out)
    clear b8 B7 y7 D7
    gi_wp2
    refine ⟨trivial, rfl, ?_⟩
    refine (callsIn_wide.2 (nNext w8)).mono ?_
    rintro e w9 ⟨rfl, b9⟩
    have B9 := Lib.hid (B8.out.trans (b9.mono B8.out.size))
    have y9 := keepC b9 y8
    have D9 := Lib.hid ((b9.block _ (Array.getElem?_eq_some_iff.1 D8.out |>.1)).trans D8.out)
    clear b9 B8 y8 D8
    gi_wp2
    refine ⟨trivial, rfl, ?_⟩
    refine (callsIn_wide.2 (nNormalise w9)).mono ?_
    rintro e w10 ⟨rfl, b10⟩
    have B10 := Lib.hid (B9.out.trans (b10.mono B9.out.size))
    have y10 := keepC b10 y9
    have D10 := Lib.hid ((b10.block _ (Array.getElem?_eq_some_iff.1 D9.out |>.1)).trans D9.out)
    clear b10 B9 y9 D9
    gi_wp2
    refine ⟨trivial, rfl, ?_⟩
    refine (callsIn_wide.2 (nTimes w10)).mono ?_
    rintro e w11 ⟨rfl, b11⟩
    have B11 := Lib.hid (B10.out.trans (b11.mono B10.out.size))
    have y11 := keepC b11 y10
    have D11 := Lib.hid ((b11.block _ (Array.getElem?_eq_some_iff.1 D10.out |>.1)).trans D10.out)
    clear b11 B10 y10 D10
    gi_wp2
    refine ⟨trivial, rfl, ?_⟩
    refine (callsIn_wide.2 (nSet w11 _)).mono ?_
    rintro e w12 ⟨rfl, b12⟩
    have B12 := Lib.hid (B11.out.trans (b12.mono B11.out.size))
    have y12 := keepC b12 y11
    have D12 := Lib.hid ((b12.block _ (Array.getElem?_eq_some_iff.1 D11.out |>.1)).trans D11.out)
    clear b12 B11 y11 D11
    gi_wp2
    refine ⟨by simp, .inl ⟨_, _, rfl, run_takeDeferred D12.out, ?_⟩⟩
    refine ⟨_, results_tmp rfl _ _ _, ?_, ?_⟩
    · rfl
    · exact B12.out.trans (below_putObj _ _ _ (by omega) B12.out.size)
  case stop =>
    rintro c pre W2 _ h
    exact h.elim
end Go.Proofs.Ytfigepnpegnhkaa
namespace Go.Proofs.Ytfigepnpegnhkaa.clockNil
open Go.ChangeShapes Go.WideShapes Go.ChangeAt Go.RowKit
theorem walk (H : Type) (enc : TypeId × Value → H) (W : World) (base : Nat) (v0 v1 : Value) {d0 d1 : DataW H} {p0 p1 : List MemPlace}
    (k0 : Value.okWide Try.prog W .any base 3 v0) (h0 : DataW.Trod enc Try.prog W 0 (fun _ => true) true 3 v0 d0 p0)
    (k1 : Value.okWide Try.prog W .any base 3 v1) (h1 : DataW.Trod enc Try.prog W 0 (fun _ => true) true 3 v1 d1 p1) :
    Calls Try.prog 5 #[v0, v1] W fun e w' => e = .returned (.bool true) ∧ Below W.heap.size W w' := by
  obtain ⟨i, rfl, rfl, rfl, w0⟩ := open_int Try.underlying3 k0 h0
  obtain ⟨n, rfl, rfl, rfl, w1⟩ := open_int Try.underlying3 k1 h1
  exact clockNil_law i n W
end Go.Proofs.Ytfigepnpegnhkaa.clockNil
