/- The channels: Write, Read, Next. -/
import Derived.Test.YtkeikkkcmackeaaDmaBs
import Derived.Test.YtkeikkkcmackeaaKeep
import Derived.Deep.DeepCutAuto
namespace Go.Proofs.Ytkeikkkcmackeaa
open Go.RowKit
set_option linter.unusedVariables false
set_option linter.unusedSimpArgs false
set_option maxRecDepth 100000

/-- What a write does. -/
def wrF (p v : Int) (f : Nat → Int) : Bool × (Nat → Int) :=
  if p = 16907 then (true, put1 (if f 96 = 0 then put1 f 97 0 else f) 96 (bits .or .u8 (f 96) v))
  else if p = 16908 then (true, put1 f 98 v)
  else match plc p with | none => (false, f) | some i => (true, put1 f i v)

section
variable {w : World} {g : Nat} {f : Nat → Int}
set_option maxHeartbeats 1000000 in
theorem write_any (A : Da w g f) (p v : Int) (p0 : 0 ≤ p) (p1 : p ≤ 65535) :
    Calls Try.prog 10 #[.pointer (some ⟨g, 0, none⟩), .int .u16 p, .int .u8 v] w (Wrote w g (wrF p v f).2 (.bool (wrF p v f).1)) := by
  have HA := Lib.hid A
  by_cases c1 : p = 16907
  · subst c1
    have c6 := A.cell (j := 96) (by omega)
    have c7 := A.cell (j := 97) (by omega)
    have f6 := A.frozen 96
    have f7 := A.frozen 97
    clear A
    obtain ⟨m, hm⟩ : ∃ m, f 96 = m := ⟨_, rfl⟩
    rw [hm] at c6
    have hw : wrF 16907 v f = (true, put1 (if m = 0 then put1 f 97 0 else f) 96 (bits .or .u8 m v)) := by unfold wrF; rw [if_pos rfl, hm]
    rw [hw]
    obtain ⟨q, hq⟩ : ∃ q, bits .or .u8 m v = q := ⟨_, rfl⟩
    rw [hq]
    by_cases c2 : m = 0
    · subst c2
      rw [if_pos rfl]
      clear hw hm
      go_enter Try.func10, Try.ntmps10
      go_wp2_with fail
      go_ret
      exact ⟨rfl, (HA.out.put1 (by omega) _).put1 (by omega) _, ((Upd.refl _ _).set _ _).set _ _⟩
    · rw [if_neg c2]
      clear hw hm
      have c3 : (m == 0) = false := by simpa using c2
      go_enter Try.func10, Try.ntmps10
      go_wp2_with fail
      go_ret
      exact ⟨rfl, HA.out.put1 (by omega) _, (Upd.refl _ _).set _ _⟩
  by_cases c2 : p = 16908
  · subst c2
    have c8 := A.cell (j := 98) (by omega)
    have f8 := A.frozen 98
    have hw : wrF 16908 v f = (true, put1 f 98 v) := by unfold wrF; rw [if_neg (by decide), if_pos rfl]
    rw [hw]
    clear A hw c1
    go_enter Try.func10, Try.ntmps10
    go_wp2_with fail
    go_ret
    exact ⟨rfl, HA.out.put1 (by omega) _, (Upd.refl _ _).set _ _⟩
  have e1 : (p == 16907) = false := by simpa using c1
  have e2 : (p == 16908) = false := by simpa using c2
  have PC := Lib.hid (fun (w' : World) (A' : Da w' g f) => place_any A' p p0 p1)
  cases hp : plc p with
  | none =>
    have hv : plcV g p = .pointer none := by unfold plcV; rw [hp]
    have hw : wrF p v f = (false, f) := by unfold wrF; rw [if_neg c1, if_neg c2, hp]
    rw [hv] at PC
    rw [hw]
    clear A hv hw hp c1 c2
    go_enter Try.func10, Try.ntmps10
    go_wp2_with fail
    refine (PC.out _ HA.out).mono ?_
    rintro e w1 ⟨rfl, hb⟩
    go_wp2_with fail
    go_ret
    exact ⟨rfl, HA.out.kept hb, Upd.ofBelow hb _⟩
  | some i =>
    have hv : plcV g p = .pointer (some ⟨g, i, none⟩) := by unfold plcV; rw [hp]
    have hw : wrF p v f = (true, put1 f i v) := by unfold wrF; rw [if_neg c1, if_neg c2, hp]
    have hi := plc_lt hp
    rw [hv] at PC
    rw [hw]
    clear A hv hw hp c1 c2
    go_enter Try.func10, Try.ntmps10
    go_wp2_with fail
    refine (PC.out _ HA.out).mono ?_
    rintro e w1 ⟨rfl, hb⟩
    have A1 := HA.out.kept hb
    have ci := A1.cell (j := i) (by omega)
    have fi := A1.frozen i
    have HA1 := Lib.hid A1
    have HB := Lib.hid hb
    clear A1 hb
    go_wp2_with fail
    go_ret
    exact ⟨rfl, HA1.out.put1 (by omega) _, (Upd.ofBelow HB.out _).set _ _⟩
def rdV (f : Nat → Int) (p : Int) : Value := match plc p with | none => .tuple #[.int .u8 0, .bool false] | some i => .tuple #[.int .u8 (f i), .bool true]
set_option maxHeartbeats 1000000 in
theorem readp_any (A : Da w g f) (p : Int) (p0 : 0 ≤ p) (p1 : p ≤ 65535) :
    Calls Try.prog 15 #[.pointer (some ⟨g, 0, none⟩), .int .u16 p] w (Says w (rdV f p)) := by
  have HA := Lib.hid A
  have PC := Lib.hid (fun (w' : World) (A' : Da w' g f) => place_any A' p p0 p1)
  cases hp : plc p with
  | none =>
    have hv : plcV g p = .pointer none := by unfold plcV; rw [hp]
    have hw : rdV f p = .tuple #[.int .u8 0, .bool false] := by unfold rdV; rw [hp]
    rw [hv] at PC
    rw [hw]
    clear A hv hw hp
    go_enter Try.func15, Try.ntmps15
    go_wp2_with fail
    refine (PC.out _ HA.out).mono ?_
    rintro e w1 ⟨rfl, hb⟩
    go_wp2_with fail
    go_ret2
    exact ⟨rfl, hb⟩
  | some i =>
    have hv : plcV g p = .pointer (some ⟨g, i, none⟩) := by unfold plcV; rw [hp]
    have hw : rdV f p = .tuple #[.int .u8 (f i), .bool true] := by unfold rdV; rw [hp]
    have hi := plc_lt hp
    rw [hv] at PC
    rw [hw]
    clear A hv hw hp
    go_enter Try.func15, Try.ntmps15
    go_wp2_with fail
    refine (PC.out _ HA.out).mono ?_
    rintro e w1 ⟨rfl, hb⟩
    have ci := (HA.out.kept hb).cell (j := i) (by omega)
    have HB := Lib.hid hb
    clear hb
    go_wp2_with fail
    go_ret2
    exact ⟨rfl, HB.out⟩

/-- The channel whose turn it is. -/
def First (o : Int) (c : Nat) : Prop := 1 ≤ o ∧ o ≤ 255 ∧ Lib.ntz8 o = c
set_option maxHeartbeats 2000000 in
theorem next_move (A : Da w g f) (R : Rng f) (c : Nat) (hc : c < 8) (ho : First (f 96) c) (hw : f 101 = 0) :
    Calls Try.prog 11 #[.pointer (some ⟨g, 0, none⟩)] w (Says w (.tuple #[trV (kindOf (f (c * 12))) (liesOf f (c * 12 + 4) (c * 12 + 2)) ((f (c * 12 + 1) + patOf (f (c * 12)) (f 97)) % 256), .bool true])) := by
  have c96 := A.cell (j := 96) (by omega)
  have c97 := A.cell (j := 97) (by omega)
  have c101 := A.cell (j := 101) (by omega)
  have r97 := R 97
  have hlt := A.lt
  rw [hw] at c101
  have LE := Lib.hid (fun (w' : World) (A' : Da w' g f) => least_any A' c hc (f 96) ho)
  have LI := Lib.hid (fun (w' : World) (A' : Da w' g f) => lies_any (o := c * 12) A' R 4 2 (by omega) (by omega) (by omega))
  obtain ⟨a, ha⟩ : ∃ a, liesOf f (c * 12 + 4) (c * 12 + 2) = a := ⟨_, rfl⟩
  have MO := Lib.hid (fun (w' : World) (A' : Da w' g f) => moving_any (o := c * 12) A' R a (f 97) r97.1 r97.2 (by omega))
  rw [ha] at LI ⊢
  obtain ⟨k, hk⟩ : ∃ k, kindOf (f (c * 12)) = k := ⟨_, rfl⟩
  obtain ⟨b, hb⟩ : ∃ b, (f (c * 12 + 1) + patOf (f (c * 12)) (f 97)) % 256 = b := ⟨_, rfl⟩
  rw [hk, hb] at MO ⊢
  obtain ⟨m, hm⟩ : ∃ m, f 97 = m := ⟨_, rfl⟩
  obtain ⟨o, ho'⟩ : ∃ m, f 96 = m := ⟨_, rfl⟩
  rw [hm] at MO c97
  rw [ho'] at LE c96
  have HA := Lib.hid A
  clear A R ho hw r97 ha hk hb hm ho'
  go_enter Try.func11, Try.ntmps11
  go_wp2_with fail
  obtain ⟨W1, hW⟩ : ∃ W1, W1 = w.alloc (.cells #[.int .u8 0, .int .u32 0, .int .u8 0] 30) := ⟨_, rfl⟩
  obtain ⟨B, hB⟩ : ∃ B, B = w.heap.size := ⟨_, rfl⟩
  have BT : Hid (Blk W1 B 30 #[.int .u8 0, .int .u32 0, .int .u8 0]) := by rw [hW, hB]; exact Blk.new _ _ _
  have HB1 : Hid (Below w.heap.size w W1) := by rw [hW]; exact belowA (Below.refl _ _) _
  have hBw : Hid (w.heap.size ≤ B) := by rw [hB]; exact Nat.le_refl _
  rw [← hW, ← hB]
  have gB : g ≠ B := by omega
  clear hW hB
  refine (LE.out _ (HA.out.kept HB1.out)).mono ?_
  rintro e w2 ⟨rfl, hb2⟩
  have p97 : w2.drew.cell? ⟨g, 97, none⟩ = some (.int .u8 m) := keepC (HB1.out.trans (hb2.mono HB1.out.size)).drew c97
  have HB2 := Lib.hid (HB1.out.trans (hb2.mono HB1.out.size))
  have BT2 := Lib.hid (BT.out.kept hb2)
  clear hb2 c96 c97 c101 HB1 BT LE
  go_wp2_with fail
  go_region_held3 (fun w' => w'.cell? ⟨g, 97, none⟩ = some (.int .u8 m))
    (first | (with_reducible exact p97) | (with_reducible exact q97) | (with_reducible exact r97) | (with_reducible exact keepSet (keepSet (keepSet r97 gB) gB) gB))
    (first
      | (go_at_call 39; refine (LI.out _ (HA.out.kept (HB2.out.drew))).mono ?_; rintro e w3 ⟨rfl, hb3⟩; have q97 := keepC hb3 p97; have HB3 := Lib.hid (HB2.out.drew.trans (hb3.mono HB2.out.size)); have BT3 := Lib.hid (BT2.out.drew.kept hb3); clear hb3)
      | (go_at_call 38; refine (MO.out _ (HA.out.kept HB3.out)).mono ?_; rintro e w4 ⟨rfl, hb4⟩; have HB4 := Lib.hid (HB3.out.trans (hb4.mono HB3.out.size)); have bt4 := BT3.out.kept hb4; have z0 := bt4.cell 0; have z1 := bt4.cell 1; have z2 := bt4.cell 2; have f0 := bt4.frozen 0; have f1 := bt4.frozen 1; have f2 := bt4.frozen 2; have r97 := keepC hb4 q97; have BT4 := Lib.hid bt4; clear hb4 bt4))
  all_goals
    go_wp2_with fail
    exact bodyPost_ret (v := .tuple #[trV k a b, .bool true]) (by simp [results, Try.results11, go_sem, z0, z1, z2]) rfl ⟨rfl, belowS (belowS (belowS HB4.out hBw.out _) hBw.out _) hBw.out _⟩
set_option maxHeartbeats 1000000 in
theorem next_none (A : Da w g f) (hm : f 96 = 0) (hw : f 101 = 0) :
    Calls Try.prog 11 #[.pointer (some ⟨g, 0, none⟩)] w (Says w (.tuple #[trV 0 0 0, .bool false])) := by
  have c96 := A.cell (j := 96) (by omega)
  have c101 := A.cell (j := 101) (by omega)
  have hlt := A.lt
  rw [hw] at c101
  rw [hm] at c96
  have LE := Lib.hid (fun (w' : World) (A' : Da w' g f) => least_none A')
  have HA := Lib.hid A
  clear A hm hw
  go_enter Try.func11, Try.ntmps11
  go_wp2_with fail
  obtain ⟨W1, hW⟩ : ∃ W1, W1 = w.alloc (.cells #[.int .u8 0, .int .u32 0, .int .u8 0] 30) := ⟨_, rfl⟩
  obtain ⟨B, hB⟩ : ∃ B, B = w.heap.size := ⟨_, rfl⟩
  have BT : Hid (Blk W1 B 30 #[.int .u8 0, .int .u32 0, .int .u8 0]) := by rw [hW, hB]; exact Blk.new _ _ _
  have HB1 : Hid (Below w.heap.size w W1) := by rw [hW]; exact belowA (Below.refl _ _) _
  have hBw : Hid (w.heap.size ≤ B) := by rw [hB]; exact Nat.le_refl _
  rw [← hW, ← hB]
  clear hW hB
  refine (LE.out _ (HA.out.kept HB1.out)).mono ?_
  rintro e w2 ⟨rfl, hb2⟩
  have HB2 := Lib.hid (HB1.out.trans (hb2.mono HB1.out.size))
  have bt2 := BT.out.kept hb2
  have z0 := bt2.cell 0
  have z1 := bt2.cell 1
  have z2 := bt2.cell 2
  have f0 := bt2.frozen 0
  have f1 := bt2.frozen 1
  have f2 := bt2.frozen 2
  have BT2 := Lib.hid bt2
  clear hb2 c96 c101 HB1 BT LE bt2
  go_wp2_with fail
  exact bodyPost_ret (v := .tuple #[trV 0 0 0, .bool false]) (by simp [results, Try.results11, go_sem, z0, z1, z2]) rfl ⟨rfl, belowS (belowS (belowS HB2.out hBw.out _) hBw.out _) hBw.out _⟩

/-- What a byte that is moved leaves. -/
def stepM (m x : Int) : Int := if m / 8 % 4 = 0 then (x + 1) % 65536 else if m / 8 % 4 = 2 then (x - 1) % 65536 else x
def moveF (o : Nat) (f : Nat → Int) : Nat → Int :=
  let f1 := if f o / 8 % 4 = 0 ∨ f o / 8 % 4 = 2 then put2 f (o + 2) (stepM (f o) (wordOf f (o + 2))) else f
  let f2 := put2 f1 (o + 5) ((wordOf f1 (o + 5) - 1) % 65536)
  let f3 := put1 f2 97 ((f 97 + 1) % 256 % 4)
  f3
end
end Go.Proofs.Ytkeikkkcmackeaa
