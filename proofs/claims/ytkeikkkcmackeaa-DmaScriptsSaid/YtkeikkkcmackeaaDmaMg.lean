/- dma, the document's Next. -/
import Derived.Test.YtkeikkkcmackeaaDmaKb
import Derived.Test.YtkeikkkcmackeaaDmaLc
namespace Go.Proofs.Ytkeikkkcmackeaa
open Go.RowKit
set_option linter.unusedVariables false
set_option linter.unusedSimpArgs false
set_option maxRecDepth 100000
section
variable {w : World} {B : Nat} {f : Nat → Int}
set_option maxHeartbeats 2000000 in
theorem dnext_none (A : Ra w B f) (hm : f 96 = 0) (hw : f 101 = 0) :
    Calls Try.prog 26 #[at_ B 0] w (Says w (.tuple #[trV 0 0 0, .bool false])) := by
  have c96 := A.cell (j := 96) (by omega)
  have c101 := A.cell (j := 101) (by omega)
  have hlt := A.lt
  rw [hw] at c101
  rw [hm] at c96
  have LE := Lib.hid (fun w' => rleast_any 0 w' (by omega) (by omega))
  rw [low_zero] at LE
  clear A hm hw
  go_enter Try.func26, Try.ntmps26
  try simp only [List.append_eq, List.cons_append, List.nil_append]
  go_wp2_with fail
  obtain ⟨W1, hW⟩ : ∃ W1, W1 = w.alloc (.cells #[.int .u8 0, .int .u32 0, .int .u8 0] 30) := ⟨_, rfl⟩
  obtain ⟨T, hT⟩ : ∃ T, T = w.heap.size := ⟨_, rfl⟩
  have BT : Hid (Blk W1 T 30 #[.int .u8 0, .int .u32 0, .int .u8 0]) := by rw [hW, hT]; exact Blk.new _ _ _
  have HB1 : Hid (Below w.heap.size w W1) := by rw [hW]; exact belowA (Below.refl _ _) _
  have hBw : Hid (w.heap.size ≤ T) := by rw [hT]; exact Nat.le_refl _
  rw [← hW, ← hT]
  have gB : B ≠ T := by have := hlt; omega
  clear hW hT
  refine (LE.out _).mono ?_
  rintro e w2 ⟨rfl, hb2⟩
  have HBL := Lib.hid (HB1.out.trans (hb2.mono HB1.out.size))
  have bt := BT.out.kept hb2
  have z0 := bt.cell 0; have z1 := bt.cell 1; have z2 := bt.cell 2; have f0 := bt.frozen 0; have f1 := bt.frozen 1; have f2 := bt.frozen 2
  clear hb2 c96 c101 HB1 BT LE bt
  go_wp2_with fail
  exact bodyPost_ret (v := .tuple #[trV 0 0 0, .bool false]) (by simp [results, Try.results26, go_sem, z0, z1, z2]) rfl ⟨rfl, belowS (belowS (belowS HBL.out hBw.out _) hBw.out _) hBw.out _⟩
set_option maxHeartbeats 4000000 in
theorem dnext_entry (A : Ra w B f) (R : Rng f) (c : Nat) (hc : c < 8) (hl : lowC (f 102) = c) (hw : f 101 ≠ 0) (hs : 8 ≤ f 103) :
    Calls Try.prog 26 #[at_ B 0] w (Says w (.tuple #[trV 1 (liesOf f (c * 12 + 4) (c * 12 + 8)) 0, .bool true])) := by
  have c101 := A.cell (j := 101) (by omega)
  have c102 := A.cell (j := 102) (by omega)
  have c103 := A.cell (j := 103) (by omega)
  have c4 := A.cell (j := c * 12 + 4) (by omega)
  have hlt := A.lt
  have zc : (c : Int) < 8 := by omega
  have r4 := R (c * 12 + 4)
  have rw8 := wordOf_rng R (c * 12 + 8)
  have LE := Lib.hid (fun w' => rleast_any (f 102) w' (R 102).1 (R 102).2)
  rw [hl] at LE
  have WD := Lib.hid (fun (w' : World) (A' : Ra w' B f) => dword_any A' R c 8 hc (by omega))
  have hx : liesOf f (c * 12 + 4) (c * 12 + 8) = f (c * 12 + 4) * 65536 + wordOf f (c * 12 + 8) := rfl
  rw [hx]
  obtain ⟨x4, hx4⟩ : ∃ x, f (c * 12 + 4) = x := ⟨_, rfl⟩
  obtain ⟨x8, hx8⟩ : ∃ x, wordOf f (c * 12 + 8) = x := ⟨_, rfl⟩
  rw [hx4] at c4 r4 ⊢
  rw [hx8] at WD rw8 ⊢
  have w1 : IntKind.i64.wrap x4 = x4 := by rw [IntKind.wrap_i64]; omega
  have w2 : IntKind.i64.wrap (x4 * 65536) = x4 * 65536 := by rw [IntKind.wrap_i64]; omega
  have w3 : IntKind.i64.wrap (x4 * 65536 + x8) = x4 * 65536 + x8 := by rw [IntKind.wrap_i64]; omega
  have w4 : IntKind.u32.wrap (x4 * 65536 + x8) = x4 * 65536 + x8 := by rw [IntKind.wrap_u32]; omega
  have w5 : (x4 * 65536 + x8) % 4294967296 = x4 * 65536 + x8 := by omega
  have t : (f 101 != 0) = true := by simpa using hw
  obtain ⟨y1, hy1⟩ : ∃ y, f 101 = y := ⟨_, rfl⟩
  rw [hy1] at c101 t
  obtain ⟨y2, hy2⟩ : ∃ y, f 102 = y := ⟨_, rfl⟩
  rw [hy2] at c102 LE
  obtain ⟨y3, hy3⟩ : ∃ y, f 103 = y := ⟨_, rfl⟩
  rw [hy3] at c103 hs
  have HA := Lib.hid A
  clear A R hl hw hx hx4 hx8 hy1 hy2 hy3 r4 rw8
  go_enter Try.func26, Try.ntmps26
  try simp only [List.append_eq, List.cons_append, List.nil_append]
  go_wp2_with fail
  obtain ⟨W1, hW⟩ : ∃ W1, W1 = w.alloc (.cells #[.int .u8 0, .int .u32 0, .int .u8 0] 30) := ⟨_, rfl⟩
  obtain ⟨T, hT⟩ : ∃ T, T = w.heap.size := ⟨_, rfl⟩
  have BT : Hid (Blk W1 T 30 #[.int .u8 0, .int .u32 0, .int .u8 0]) := by rw [hW, hT]; exact Blk.new _ _ _
  have HB1 : Hid (Below w.heap.size w W1) := by rw [hW]; exact belowA (Below.refl _ _) _
  have hBw : Hid (w.heap.size ≤ T) := by rw [hT]; exact Nat.le_refl _
  rw [← hW, ← hT]
  have gB : B ≠ T := by have := hlt; omega
  clear hW hT
  refine (LE.out _).mono ?_
  rintro e w2' ⟨rfl, hb2⟩
  have HB2 := Lib.hid (HB1.out.trans (hb2.mono HB1.out.size))
  have BT2 := Lib.hid (BT.out.kept hb2)
  have p103 := keepC HB2.out c103
  have p4 := keepC HB2.out c4
  have pd4 : w2'.drew.cell? ⟨B, c * 12 + 4, none⟩ = some (.int .u8 x4) := p4
  clear hb2 c101 c102 c103 c4 HB1 BT LE
  go_upto_region 4 with (fail)
  go_region_held3 (fun w' => w'.cell? ⟨B, c * 12 + 4, none⟩ = some (.int .u8 x4))
    (first | (with_reducible exact pd4) | (with_reducible exact q4) | (with_reducible exact keepSet (keepSet (keepSet q4 gB) gB) gB))
    (first
      | (go_at_call 52; refine (WD.out _ (Arr.kept HA.out HB2.out.drew)).mono ?_; rintro e w3' ⟨rfl, hb3⟩; have q4 := keepC hb3 pd4; have HBL := Lib.hid (HB2.out.drew.trans (hb3.mono HB2.out.size)); have bt := BT2.out.drew.kept hb3; have z0 := bt.cell 0; have z1 := bt.cell 1; have z2 := bt.cell 2; have f0 := bt.frozen 0; have f1 := bt.frozen 1; have f2 := bt.frozen 2; clear hb3 bt))
  all_goals
    go_wp2_with fail
    exact bodyPost_ret (v := .tuple #[trV 1 (x4 * 65536 + x8) 0, .bool true]) (by simp [results, Try.results26, go_sem, z0, z1, z2]) rfl ⟨rfl, belowS (belowS (belowS HBL.out hBw.out _) hBw.out _) hBw.out _⟩
set_option maxHeartbeats 4000000 in
theorem dnext_dir (A : Ra w B f) (R : Rng f) (c : Nat) (hc : c < 8) (hl : lowC (f 102) = c) (hw : f 101 ≠ 0) (hs : f 103 < 8) (hd : indB f c = false) :
    Calls Try.prog 26 #[at_ B 0] w (Says w (.tuple #[trV (kindOf (f (c * 12))) (liesOf f (c * 12 + 4) (c * 12 + 8)) ((f (c * 12 + 1) + patOf (f (c * 12)) (f 103)) % 256), .bool true])) := by
  have c101 := A.cell (j := 101) (by omega)
  have c102 := A.cell (j := 102) (by omega)
  have c103 := A.cell (j := 103) (by omega)
  have c4 := A.cell (j := c * 12 + 4) (by omega)
  have c7 := A.cell (j := c * 12 + 7) (by omega)
  have hlt := A.lt
  have zc : (c : Int) < 8 := by omega
  have r4 := R (c * 12 + 4)
  have r7 := R (c * 12 + 7)
  have rw8 := wordOf_rng R (c * 12 + 8)
  have rw5 := wordOf_rng R (c * 12 + 5)
  have LE := Lib.hid (fun w' => rleast_any (f 102) w' (R 102).1 (R 102).2)
  rw [hl] at LE
  have WD := Lib.hid (fun (w' : World) (A' : Ra w' B f) => dword_any A' R c 8 hc (by omega))
  have WE := Lib.hid (fun (w' : World) (A' : Ra w' B f) => dword_any A' R c 5 hc (by omega))
  have IN := Lib.hid (fun (w' : World) (A' : Ra w' B f) => dindirect_any A' R c hc)
  have hd' : decide (bitN (f (c * 12)) 6 = 1) = false := hd
  rw [hd'] at IN
  have WY := Lib.hid (fun (w' : World) (A' : Ra w' B f) => dway_any A' R c hc)
  have PO := Lib.hid (fun (w' : World) (A' : Ra w' B f) => dport_any A' R c hc (f 103) (R 103).1 (R 103).2)
  have hx : liesOf f (c * 12 + 4) (c * 12 + 8) = f (c * 12 + 4) * 65536 + wordOf f (c * 12 + 8) := rfl
  rw [hx]
  obtain ⟨kd, hkd⟩ : ∃ x, kindOf (f (c * 12)) = x := ⟨_, rfl⟩
  obtain ⟨pv, hpv⟩ : ∃ x, (f (c * 12 + 1) + patOf (f (c * 12)) (f 103)) % 256 = x := ⟨_, rfl⟩
  rw [hkd] at WY ⊢
  rw [hpv] at PO ⊢
  obtain ⟨x4, hx4⟩ : ∃ x, f (c * 12 + 4) = x := ⟨_, rfl⟩
  obtain ⟨x7, hx7⟩ : ∃ x, f (c * 12 + 7) = x := ⟨_, rfl⟩
  obtain ⟨x8, hx8⟩ : ∃ x, wordOf f (c * 12 + 8) = x := ⟨_, rfl⟩
  obtain ⟨x5, hx5⟩ : ∃ x, wordOf f (c * 12 + 5) = x := ⟨_, rfl⟩
  rw [hx4] at c4 r4
  rw [hx7] at c7 r7
  rw [hx8] at WD rw8
  rw [hx5] at WE rw5
  rw [hx4, hx8]
  have w1 : IntKind.i64.wrap x4 = x4 := by rw [IntKind.wrap_i64]; omega
  have w2 : IntKind.i64.wrap (x4 * 65536) = x4 * 65536 := by rw [IntKind.wrap_i64]; omega
  have w3 : IntKind.i64.wrap (x4 * 65536 + x8) = x4 * 65536 + x8 := by rw [IntKind.wrap_i64]; omega
  have w4 : IntKind.u32.wrap (x4 * 65536 + x8) = x4 * 65536 + x8 := by rw [IntKind.wrap_u32]; omega
  have w5 : (x4 * 65536 + x8) % 4294967296 = x4 * 65536 + x8 := by omega
  have v1 : IntKind.i64.wrap x7 = x7 := by rw [IntKind.wrap_i64]; omega
  have v2 : IntKind.i64.wrap (x7 * 65536) = x7 * 65536 := by rw [IntKind.wrap_i64]; omega
  have v3 : IntKind.i64.wrap (x7 * 65536 + x5) = x7 * 65536 + x5 := by rw [IntKind.wrap_i64]; omega
  have v4 : IntKind.u32.wrap (x7 * 65536 + x5) = x7 * 65536 + x5 := by rw [IntKind.wrap_u32]; omega
  have v5 : (x7 * 65536 + x5) % 4294967296 = x7 * 65536 + x5 := by omega
  have t : (f 101 != 0) = true := by simpa using hw
  obtain ⟨y1, hy1⟩ : ∃ y, f 101 = y := ⟨_, rfl⟩
  rw [hy1] at c101 t
  obtain ⟨y2, hy2⟩ : ∃ y, f 102 = y := ⟨_, rfl⟩
  rw [hy2] at c102 LE
  obtain ⟨y3, hy3⟩ : ∃ y, f 103 = y := ⟨_, rfl⟩
  rw [hy3] at c103 hs PO
  have t8 : ¬ 8 ≤ y3 := by omega
  have HA := Lib.hid A
  clear A R hl hw hx hx4 hx8 hx7 hx5 hy1 hy2 hy3 r4 r7 rw8 rw5 hd hd' hkd hpv hs
  go_enter Try.func26, Try.ntmps26
  try simp only [List.append_eq, List.cons_append, List.nil_append]
  go_wp2_with fail
  obtain ⟨W1, hW⟩ : ∃ W1, W1 = w.alloc (.cells #[.int .u8 0, .int .u32 0, .int .u8 0] 30) := ⟨_, rfl⟩
  obtain ⟨T, hT⟩ : ∃ T, T = w.heap.size := ⟨_, rfl⟩
  have BT : Hid (Blk W1 T 30 #[.int .u8 0, .int .u32 0, .int .u8 0]) := by rw [hW, hT]; exact Blk.new _ _ _
  have HB1 : Hid (Below w.heap.size w W1) := by rw [hW]; exact belowA (Below.refl _ _) _
  have hBw : Hid (w.heap.size ≤ T) := by rw [hT]; exact Nat.le_refl _
  rw [← hW, ← hT]
  have gB : B ≠ T := by have := hlt; omega
  clear hW hT
  refine (LE.out _).mono ?_
  rintro e w2' ⟨rfl, hb2⟩
  have HB2 := Lib.hid (HB1.out.trans (hb2.mono HB1.out.size))
  have BT2 := Lib.hid (BT.out.kept hb2)
  have p103 := keepC HB2.out c103
  have pd4 : w2'.drew.cell? ⟨B, c * 12 + 4, none⟩ = some (.int .u8 x4) := keepC HB2.out.drew c4
  clear hb2 c101 c102 c4 HB1 BT LE
  go_upto_region 5 with (fail)
  go_region_held3 (fun w' => w'.cell? ⟨B, c * 12 + 4, none⟩ = some (.int .u8 x4))
    (first | (with_reducible exact pd4) | (with_reducible exact q4))
    (first
      | (go_at_call 52; refine (WD.out _ (Arr.kept HA.out HB2.out.drew)).mono ?_; rintro e w3' ⟨rfl, hb3⟩; have q4 := keepC hb3 pd4; have HB3 := Lib.hid (HB2.out.drew.trans (hb3.mono HB2.out.size)); have BT3 := Lib.hid (BT2.out.drew.kept hb3); clear hb3))
  all_goals
    clear HB2 BT2 p103 pd4 q4 WD
    go_wp2_with fail
    refine (IN.out _ (Arr.kept HA.out HB3.out)).mono ?_
    rintro e w4' ⟨rfl, hb4⟩
    have HB4 := Lib.hid (HB3.out.trans (hb4.mono HB3.out.size))
    have BT4 := Lib.hid (BT3.out.kept hb4)
    clear hb4 IN HB3 BT3
    have HP : Hid (∀ w', Below w.heap.size w w' → w'.cell? ⟨B, 103, none⟩ = some (.int .u8 y3)) := Lib.hid (fun w' hb => keepC hb c103)
    have pd3 : w4'.drew.cell? ⟨B, 103, none⟩ = some (.int .u8 y3) := HP.out _ HB4.out.drew
    go_upto_region 8 with (fail)
    go_region_held3 (fun w' => w'.cell? ⟨B, 103, none⟩ = some (.int .u8 y3))
      (first | (with_reducible exact pd3) | (with_reducible exact q7) | (with_reducible exact q8) | (with_reducible exact keepSet (keepSet (keepSet q8 gB) gB) gB))
      (first
        | (go_at_call 54; refine (WY.out _ (Arr.kept HA.out HB4.out.drew)).mono ?_; rintro e w7 ⟨rfl, hb7⟩; have q7 := keepC hb7 pd3; have HB7 := Lib.hid (HB4.out.drew.trans (hb7.mono HB4.out.size)); have BT7 := Lib.hid (BT4.out.drew.kept hb7); clear hb7)
        | (go_at_call 55; refine (PO.out _ (Arr.kept HA.out HB7.out)).mono ?_; rintro e w8 ⟨rfl, hb8⟩; have q8 := keepC hb8 q7; have HBL := Lib.hid (HB7.out.trans (hb8.mono HB7.out.size)); have bt := BT7.out.kept hb8; have z0 := bt.cell 0; have z1 := bt.cell 1; have z2 := bt.cell 2; have f0 := bt.frozen 0; have f1 := bt.frozen 1; have f2 := bt.frozen 2; clear hb8 bt))
    all_goals
      go_wp2_with fail
      exact bodyPost_ret (v := .tuple #[trV kd (x4 * 65536 + x8) pv, .bool true]) (by simp [results, Try.results26, go_sem, z0, z1, z2]) rfl ⟨rfl, belowS (belowS (belowS HBL.out hBw.out _) hBw.out _) hBw.out _⟩
set_option maxHeartbeats 4000000 in
theorem dnext_ind (A : Ra w B f) (R : Rng f) (c : Nat) (hc : c < 8) (hl : lowC (f 102) = c) (hw : f 101 ≠ 0) (hs : f 103 < 8) (hd : indB f c = true) :
    Calls Try.prog 26 #[at_ B 0] w (Says w (.tuple #[trV (kindOf (f (c * 12))) (liesOf f (c * 12 + 7) (c * 12 + 5)) ((f (c * 12 + 1) + patOf (f (c * 12)) (f 103)) % 256), .bool true])) := by
  have c101 := A.cell (j := 101) (by omega)
  have c102 := A.cell (j := 102) (by omega)
  have c103 := A.cell (j := 103) (by omega)
  have c4 := A.cell (j := c * 12 + 4) (by omega)
  have c7 := A.cell (j := c * 12 + 7) (by omega)
  have hlt := A.lt
  have zc : (c : Int) < 8 := by omega
  have r4 := R (c * 12 + 4)
  have r7 := R (c * 12 + 7)
  have rw8 := wordOf_rng R (c * 12 + 8)
  have rw5 := wordOf_rng R (c * 12 + 5)
  have LE := Lib.hid (fun w' => rleast_any (f 102) w' (R 102).1 (R 102).2)
  rw [hl] at LE
  have WD := Lib.hid (fun (w' : World) (A' : Ra w' B f) => dword_any A' R c 8 hc (by omega))
  have WE := Lib.hid (fun (w' : World) (A' : Ra w' B f) => dword_any A' R c 5 hc (by omega))
  have IN := Lib.hid (fun (w' : World) (A' : Ra w' B f) => dindirect_any A' R c hc)
  have hd' : decide (bitN (f (c * 12)) 6 = 1) = true := hd
  rw [hd'] at IN
  have WY := Lib.hid (fun (w' : World) (A' : Ra w' B f) => dway_any A' R c hc)
  have PO := Lib.hid (fun (w' : World) (A' : Ra w' B f) => dport_any A' R c hc (f 103) (R 103).1 (R 103).2)
  have hx : liesOf f (c * 12 + 7) (c * 12 + 5) = f (c * 12 + 7) * 65536 + wordOf f (c * 12 + 5) := rfl
  rw [hx]
  obtain ⟨kd, hkd⟩ : ∃ x, kindOf (f (c * 12)) = x := ⟨_, rfl⟩
  obtain ⟨pv, hpv⟩ : ∃ x, (f (c * 12 + 1) + patOf (f (c * 12)) (f 103)) % 256 = x := ⟨_, rfl⟩
  rw [hkd] at WY ⊢
  rw [hpv] at PO ⊢
  obtain ⟨x4, hx4⟩ : ∃ x, f (c * 12 + 4) = x := ⟨_, rfl⟩
  obtain ⟨x7, hx7⟩ : ∃ x, f (c * 12 + 7) = x := ⟨_, rfl⟩
  obtain ⟨x8, hx8⟩ : ∃ x, wordOf f (c * 12 + 8) = x := ⟨_, rfl⟩
  obtain ⟨x5, hx5⟩ : ∃ x, wordOf f (c * 12 + 5) = x := ⟨_, rfl⟩
  rw [hx4] at c4 r4
  rw [hx7] at c7 r7
  rw [hx8] at WD rw8
  rw [hx5] at WE rw5
  rw [hx7, hx5]
  have w1 : IntKind.i64.wrap x4 = x4 := by rw [IntKind.wrap_i64]; omega
  have w2 : IntKind.i64.wrap (x4 * 65536) = x4 * 65536 := by rw [IntKind.wrap_i64]; omega
  have w3 : IntKind.i64.wrap (x4 * 65536 + x8) = x4 * 65536 + x8 := by rw [IntKind.wrap_i64]; omega
  have w4 : IntKind.u32.wrap (x4 * 65536 + x8) = x4 * 65536 + x8 := by rw [IntKind.wrap_u32]; omega
  have w5 : (x4 * 65536 + x8) % 4294967296 = x4 * 65536 + x8 := by omega
  have v1 : IntKind.i64.wrap x7 = x7 := by rw [IntKind.wrap_i64]; omega
  have v2 : IntKind.i64.wrap (x7 * 65536) = x7 * 65536 := by rw [IntKind.wrap_i64]; omega
  have v3 : IntKind.i64.wrap (x7 * 65536 + x5) = x7 * 65536 + x5 := by rw [IntKind.wrap_i64]; omega
  have v4 : IntKind.u32.wrap (x7 * 65536 + x5) = x7 * 65536 + x5 := by rw [IntKind.wrap_u32]; omega
  have v5 : (x7 * 65536 + x5) % 4294967296 = x7 * 65536 + x5 := by omega
  have t : (f 101 != 0) = true := by simpa using hw
  obtain ⟨y1, hy1⟩ : ∃ y, f 101 = y := ⟨_, rfl⟩
  rw [hy1] at c101 t
  obtain ⟨y2, hy2⟩ : ∃ y, f 102 = y := ⟨_, rfl⟩
  rw [hy2] at c102 LE
  obtain ⟨y3, hy3⟩ : ∃ y, f 103 = y := ⟨_, rfl⟩
  rw [hy3] at c103 hs PO
  have t8 : ¬ 8 ≤ y3 := by omega
  have HA := Lib.hid A
  clear A R hl hw hx hx4 hx8 hx7 hx5 hy1 hy2 hy3 r4 r7 rw8 rw5 hd hd' hkd hpv hs
  go_enter Try.func26, Try.ntmps26
  try simp only [List.append_eq, List.cons_append, List.nil_append]
  go_wp2_with fail
  obtain ⟨W1, hW⟩ : ∃ W1, W1 = w.alloc (.cells #[.int .u8 0, .int .u32 0, .int .u8 0] 30) := ⟨_, rfl⟩
  obtain ⟨T, hT⟩ : ∃ T, T = w.heap.size := ⟨_, rfl⟩
  have BT : Hid (Blk W1 T 30 #[.int .u8 0, .int .u32 0, .int .u8 0]) := by rw [hW, hT]; exact Blk.new _ _ _
  have HB1 : Hid (Below w.heap.size w W1) := by rw [hW]; exact belowA (Below.refl _ _) _
  have hBw : Hid (w.heap.size ≤ T) := by rw [hT]; exact Nat.le_refl _
  rw [← hW, ← hT]
  have gB : B ≠ T := by have := hlt; omega
  clear hW hT
  refine (LE.out _).mono ?_
  rintro e w2' ⟨rfl, hb2⟩
  have HB2 := Lib.hid (HB1.out.trans (hb2.mono HB1.out.size))
  have BT2 := Lib.hid (BT.out.kept hb2)
  have p103 := keepC HB2.out c103
  have pd4 : w2'.drew.cell? ⟨B, c * 12 + 4, none⟩ = some (.int .u8 x4) := keepC HB2.out.drew c4
  clear hb2 c101 c102 c4 HB1 BT LE
  go_upto_region 5 with (fail)
  go_region_held3 (fun w' => w'.cell? ⟨B, c * 12 + 4, none⟩ = some (.int .u8 x4))
    (first | (with_reducible exact pd4) | (with_reducible exact q4))
    (first
      | (go_at_call 52; refine (WD.out _ (Arr.kept HA.out HB2.out.drew)).mono ?_; rintro e w3' ⟨rfl, hb3⟩; have q4 := keepC hb3 pd4; have HB3 := Lib.hid (HB2.out.drew.trans (hb3.mono HB2.out.size)); have BT3 := Lib.hid (BT2.out.drew.kept hb3); clear hb3))
  all_goals
    clear HB2 BT2 p103 pd4 q4 WD
    go_wp2_with fail
    refine (IN.out _ (Arr.kept HA.out HB3.out)).mono ?_
    rintro e w4' ⟨rfl, hb4⟩
    have HB4 := Lib.hid (HB3.out.trans (hb4.mono HB3.out.size))
    have BT4 := Lib.hid (BT3.out.kept hb4)
    clear hb4 IN HB3 BT3
    have pd7 : w4'.drew.cell? ⟨B, c * 12 + 7, none⟩ = some (.int .u8 x7) := keepC HB4.out.drew c7
    go_upto_region 7 with (fail)
    go_region_held3 (fun w' => w'.cell? ⟨B, c * 12 + 7, none⟩ = some (.int .u8 x7))
      (first | (with_reducible exact pd7) | (with_reducible exact q5))
      (first
        | (go_at_call 52; refine (WE.out _ (Arr.kept HA.out HB4.out.drew)).mono ?_; rintro e w5' ⟨rfl, hb5⟩; have q5 := keepC hb5 pd7; have HB5 := Lib.hid (HB4.out.drew.trans (hb5.mono HB4.out.size)); have BT5 := Lib.hid (BT4.out.drew.kept hb5); clear hb5))
    all_goals
      clear HB4 BT4 pd7 q5 WE
      have HP : Hid (∀ w', Below w.heap.size w w' → w'.cell? ⟨B, 103, none⟩ = some (.int .u8 y3)) := Lib.hid (fun w' hb => keepC hb c103)
      have pd3 : w5'.drew.cell? ⟨B, 103, none⟩ = some (.int .u8 y3) := HP.out _ HB5.out.drew
      go_upto_region 8 with (fail)
      go_region_held3 (fun w' => w'.cell? ⟨B, 103, none⟩ = some (.int .u8 y3))
        (first | (with_reducible exact pd3) | (with_reducible exact q7) | (with_reducible exact q8) | (with_reducible exact keepSet (keepSet (keepSet q8 gB) gB) gB))
        (first
          | (go_at_call 54; refine (WY.out _ (Arr.kept HA.out HB5.out.drew)).mono ?_; rintro e w7 ⟨rfl, hb7⟩; have q7 := keepC hb7 pd3; have HB7 := Lib.hid (HB5.out.drew.trans (hb7.mono HB5.out.size)); have BT7 := Lib.hid (BT5.out.drew.kept hb7); clear hb7)
          | (go_at_call 55; refine (PO.out _ (Arr.kept HA.out HB7.out)).mono ?_; rintro e w8 ⟨rfl, hb8⟩; have q8 := keepC hb8 q7; have HBL := Lib.hid (HB7.out.trans (hb8.mono HB7.out.size)); have bt := BT7.out.kept hb8; have z0 := bt.cell 0; have z1 := bt.cell 1; have z2 := bt.cell 2; have f0 := bt.frozen 0; have f1 := bt.frozen 1; have f2 := bt.frozen 2; clear hb8 bt))
      all_goals
        go_wp2_with fail
        exact bodyPost_ret (v := .tuple #[trV kd (x7 * 65536 + x5) pv, .bool true]) (by simp [results, Try.results26, go_sem, z0, z1, z2]) rfl ⟨rfl, belowS (belowS (belowS HBL.out hBw.out _) hBw.out _) hBw.out _⟩
set_option maxHeartbeats 4000000 in
theorem dnext_move (A : Ra w B f) (R : Rng f) (c : Nat) (hc : c < 8) (hl : lowC (f 96) = c) (hw : f 101 = 0) :
    Calls Try.prog 26 #[at_ B 0] w (Says w (.tuple #[trV (kindOf (f (c * 12))) (liesOf f (c * 12 + 4) (c * 12 + 2)) ((f (c * 12 + 1) + patOf (f (c * 12)) (f 97)) % 256), .bool true])) := by
  have c101 := A.cell (j := 101) (by omega)
  rw [hw] at c101
  have c96 := A.cell (j := 96) (by omega)
  have c97 := A.cell (j := 97) (by omega)
  have c4 := A.cell (j := c * 12 + 4) (by omega)
  have hlt := A.lt
  have zc : (c : Int) < 8 := by omega
  have t8 : ((c : Int) == 8) = false := by simp; omega
  have r4 := R (c * 12 + 4)
  have rw2 := wordOf_rng R (c * 12 + 2)
  have LE := Lib.hid (fun w' => rleast_any (f 96) w' (R 96).1 (R 96).2)
  rw [hl] at LE
  have WD := Lib.hid (fun (w' : World) (A' : Ra w' B f) => dword_any A' R c 2 hc (by omega))
  have WY := Lib.hid (fun (w' : World) (A' : Ra w' B f) => dway_any A' R c hc)
  have PO := Lib.hid (fun (w' : World) (A' : Ra w' B f) => dport_any A' R c hc (f 97) (R 97).1 (R 97).2)
  have hx : liesOf f (c * 12 + 4) (c * 12 + 2) = f (c * 12 + 4) * 65536 + wordOf f (c * 12 + 2) := rfl
  rw [hx]
  obtain ⟨kd, hkd⟩ : ∃ x, kindOf (f (c * 12)) = x := ⟨_, rfl⟩
  obtain ⟨pv, hpv⟩ : ∃ x, (f (c * 12 + 1) + patOf (f (c * 12)) (f 97)) % 256 = x := ⟨_, rfl⟩
  rw [hkd] at WY ⊢
  rw [hpv] at PO ⊢
  obtain ⟨x4, hx4⟩ : ∃ x, f (c * 12 + 4) = x := ⟨_, rfl⟩
  obtain ⟨x2, hx2⟩ : ∃ x, wordOf f (c * 12 + 2) = x := ⟨_, rfl⟩
  rw [hx4] at c4 r4 ⊢
  rw [hx2] at WD rw2 ⊢
  have w1 : IntKind.i64.wrap x4 = x4 := by rw [IntKind.wrap_i64]; omega
  have w2 : IntKind.i64.wrap (x4 * 65536) = x4 * 65536 := by rw [IntKind.wrap_i64]; omega
  have w3 : IntKind.i64.wrap (x4 * 65536 + x2) = x4 * 65536 + x2 := by rw [IntKind.wrap_i64]; omega
  have w4 : IntKind.u32.wrap (x4 * 65536 + x2) = x4 * 65536 + x2 := by rw [IntKind.wrap_u32]; omega
  have w5 : (x4 * 65536 + x2) % 4294967296 = x4 * 65536 + x2 := by omega
  obtain ⟨y2, hy2⟩ : ∃ y, f 96 = y := ⟨_, rfl⟩
  rw [hy2] at c96 LE
  obtain ⟨y3, hy3⟩ : ∃ y, f 97 = y := ⟨_, rfl⟩
  rw [hy3] at c97 PO
  have HA := Lib.hid A
  clear A R hl hw hx hx4 hx2 hy2 hy3 r4 rw2 hkd hpv
  go_enter Try.func26, Try.ntmps26
  try simp only [List.append_eq, List.cons_append, List.nil_append]
  go_wp2_with fail
  obtain ⟨W1, hW⟩ : ∃ W1, W1 = w.alloc (.cells #[.int .u8 0, .int .u32 0, .int .u8 0] 30) := ⟨_, rfl⟩
  obtain ⟨T, hT⟩ : ∃ T, T = w.heap.size := ⟨_, rfl⟩
  have BT : Hid (Blk W1 T 30 #[.int .u8 0, .int .u32 0, .int .u8 0]) := by rw [hW, hT]; exact Blk.new _ _ _
  have HB1 : Hid (Below w.heap.size w W1) := by rw [hW]; exact belowA (Below.refl _ _) _
  have hBw : Hid (w.heap.size ≤ T) := by rw [hT]; exact Nat.le_refl _
  rw [← hW, ← hT]
  have gB : B ≠ T := by have := hlt; omega
  clear hW hT
  refine (LE.out _).mono ?_
  rintro e w2' ⟨rfl, hb2⟩
  have HB2 := Lib.hid (HB1.out.trans (hb2.mono HB1.out.size))
  have BT2 := Lib.hid (BT.out.kept hb2)
  have pd : w2'.drew.cell? ⟨B, c * 12 + 4, none⟩ = some (.int .u8 x4) ∧ w2'.drew.cell? ⟨B, 97, none⟩ = some (.int .u8 y3) := ⟨keepC HB2.out.drew c4, keepC HB2.out.drew c97⟩
  clear hb2 c101 c96 c97 c4 HB1 BT LE
  go_upto_region 12 with (fail)
  go_region_held3 (fun w' => w'.cell? ⟨B, c * 12 + 4, none⟩ = some (.int .u8 x4) ∧ w'.cell? ⟨B, 97, none⟩ = some (.int .u8 y3))
    (first | (with_reducible exact pd) | (with_reducible exact q7) | (with_reducible exact q8) | (with_reducible exact q9) | (with_reducible exact ⟨keepSet (keepSet (keepSet q9.1 gB) gB) gB, keepSet (keepSet (keepSet q9.2 gB) gB) gB⟩))
    (first
      | (go_at_call 54; refine (WY.out _ (Arr.kept HA.out HB2.out.drew)).mono ?_; rintro e w7 ⟨rfl, hb7⟩; have q7 := And.intro (keepC hb7 pd.1) (keepC hb7 pd.2); have HB7 := Lib.hid (HB2.out.drew.trans (hb7.mono HB2.out.size)); have BT7 := Lib.hid (BT2.out.drew.kept hb7); clear hb7)
      | (go_at_call 52; refine (WD.out _ (Arr.kept HA.out HB7.out)).mono ?_; rintro e w8 ⟨rfl, hb8⟩; have q8 := And.intro (keepC hb8 q7.1) (keepC hb8 q7.2); have HB8 := Lib.hid (HB7.out.trans (hb8.mono HB7.out.size)); have BT8 := Lib.hid (BT7.out.kept hb8); clear hb8)
      | (go_at_call 55; refine (PO.out _ (Arr.kept HA.out HB8.out)).mono ?_; rintro e w9 ⟨rfl, hb9⟩; have q9 := And.intro (keepC hb9 q8.1) (keepC hb9 q8.2); have HBL := Lib.hid (HB8.out.trans (hb9.mono HB8.out.size)); have bt := BT8.out.kept hb9; have z0 := bt.cell 0; have z1 := bt.cell 1; have z2 := bt.cell 2; have f0 := bt.frozen 0; have f1 := bt.frozen 1; have f2 := bt.frozen 2; clear hb9 bt))
  all_goals
    go_wp2_with fail
    exact bodyPost_ret (v := .tuple #[trV kd (x4 * 65536 + x2) pv, .bool true]) (by simp [results, Try.results26, go_sem, z0, z1, z2]) rfl ⟨rfl, belowS (belowS (belowS HBL.out hBw.out _) hBw.out _) hBw.out _⟩
theorem dnext_gen (A : Ra w B f) (I : Inv f) : Calls Try.prog 26 #[at_ B 0] w (Says w (nxGV f)) := by
  unfold nxGV nxG
  by_cases hw : f 101 ≠ 0
  · rw [if_pos hw]
    have W := I.wt hw
    unfold tbT
    by_cases hs : 8 ≤ f 103
    · rw [if_pos hs]
      exact dnext_entry A I.r _ W.hc rfl hw hs
    · rw [if_neg hs]
      cases hd : indB f (lowC (f 102))
      · exact dnext_dir A I.r _ W.hc rfl hw (by omega) hd
      · exact dnext_ind A I.r _ W.hc rfl hw (by omega) hd
  · rw [if_neg hw]
    have hw' : f 101 = 0 := by omega
    by_cases h0 : f 96 = 0
    · rw [if_pos h0]
      exact dnext_none A h0 hw'
    · rw [if_neg h0]
      have r6 := I.r 96
      obtain ⟨hc, hf⟩ := low_first (x := f 96) (by omega) r6.2
      exact dnext_move A I.r _ hc rfl hw'
end
end Go.Proofs.Ytkeikkkcmackeaa
