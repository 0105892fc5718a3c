/- The channels in memory; the contracts of a channel's small methods. The channels: New, place, Write, Read, least, Next. -/
import Derived.Test.YtkeikkkcmackeaaChecked
import Derived.Test.YtkeikkkcmackeaaArr
import Derived.Lib.Tables
namespace Go.Proofs.Ytkeikkkcmackeaa
open Go.RowKit
set_option linter.unusedVariables false
set_option linter.unusedSimpArgs false
set_option maxRecDepth 100000

theorem byte_fact {P : Int → Prop} (h : ∀ n : Fin 256, P (n.val : Int)) (b : Int) (h0 : 0 ≤ b) (h1 : b ≤ 255) : P b := by
  have := h ⟨b.toNat, by omega⟩
  simp only [] at this
  rwa [Int.toNat_of_nonneg h0] at this
theorem or16 (x y : Int) (x0 : 0 ≤ x) (x1 : x ≤ 255) (y0 : 0 ≤ y) (y1 : y ≤ 255) : bits .or .u16 x (y * 256) = x + y * 256 := by
  have := u16_or_nat x.toNat (y * 256).toNat (by omega) (by omega)
  rw [Int.toNat_of_nonneg x0, Int.toNat_of_nonneg (by omega)] at this
  have e : x.toNat ||| (y * 256).toNat = 256 * y.toNat + x.toNat := by
    have h := (Nat.two_pow_add_eq_or_of_lt (i := 8) (b := x.toNat) (by omega) y.toNat)
    rw [show (y * 256).toNat = 2 ^ 8 * y.toNat by omega, Nat.or_comm, ← h]
  rw [e] at this
  rw [this]; omega
theorem or32 (x y : Int) (x0 : 0 ≤ x) (x1 : x ≤ 255) (y0 : 0 ≤ y) (y1 : y ≤ 65535) : bits .or .u32 (x * 65536) y = x * 65536 + y := by
  have := u32_or_nat (x * 65536).toNat y.toNat (by omega) (by omega)
  rw [Int.toNat_of_nonneg y0, Int.toNat_of_nonneg (by omega)] at this
  have e : (x * 65536).toNat ||| y.toNat = 65536 * x.toNat + y.toNat := by
    have h := (Nat.two_pow_add_eq_or_of_lt (i := 16) (b := y.toNat) (by omega) x.toNat)
    rw [show (x * 65536).toNat = 2 ^ 16 * x.toNat by omega, ← h]
  rw [e] at this
  rw [this]; omega

/-- The channels in block g: 104 bytes. -/
abbrev Da (w : World) (g : Nat) (f : Nat → Int) : Prop := Arr w .u8 71 g 104 f
def Rng (f : Nat → Int) : Prop := ∀ j, 0 ≤ f j ∧ f j ≤ 255
def put1 (f : Nat → Int) (i : Nat) (x : Int) : Nat → Int := fun j => if j = i then x else f j
def put2 (f : Nat → Int) (i : Nat) (x : Int) : Nat → Int := put1 (put1 f i (x % 256)) (i + 1) (x / 256)
def wordOf (f : Nat → Int) (i : Nat) : Int := f i + f (i + 1) * 256
theorem wordOf_rng {f : Nat → Int} (h : Rng f) (i : Nat) : 0 ≤ wordOf f i ∧ wordOf f i ≤ 65535 := by
  have a := h i; have b := h (i + 1); unfold wordOf; omega
theorem Rng.put1 {f : Nat → Int} (h : Rng f) (i : Nat) {x : Int} (h0 : 0 ≤ x) (h1 : x ≤ 255) : Rng (put1 f i x) := by
  intro j; unfold Proofs.Ytkeikkkcmackeaa.put1; split
  · exact ⟨h0, h1⟩
  · exact h j
theorem Rng.put2 {f : Nat → Int} (h : Rng f) (i : Nat) {x : Int} (h0 : 0 ≤ x) (h1 : x ≤ 65535) : Rng (put2 f i x) := (h.put1 i (by omega) (by omega)).put1 _ (by omega) (by omega)
theorem Arr.put1 {w : World} {g : Nat} {f : Nat → Int} (h : Da w g f) {i : Nat} (hi : i < 104) (x : Int) : Da (w.setCell ⟨g, i, none⟩ (.int .u8 x)) g (put1 f i x) := h.set hi x
/-- What a method of a result says, which writes nothing. -/
def Says (W : World) (v : Value) (e : Ending) (w' : World) : Prop := e = .returned v ∧ Below W.heap.size W w'
/-- What a method without a result leaves. -/
def Wrote (W : World) (g : Nat) (f : Nat → Int) (v : Value) (e : Ending) (w' : World) : Prop := e = .returned v ∧ Da w' g f ∧ Upd W g w'
abbrev chP (g o : Nat) : Value := .pointer (some ⟨g, o, none⟩)

section
variable {w : World} {g o : Nat} {f : Nat → Int}
set_option maxHeartbeats 1000000 in
theorem word_any (A : Da w g f) (R : Rng f) (k : Nat) (hk : k + 1 < 12) (ho : o + 12 ≤ 104) :
    Calls Try.prog 68 #[chP g o, .int .i64 k] w (Says w (.int .u16 (wordOf f (o + k)))) := by
  have c0 := A.cell (j := o + k) (by omega)
  have c1 := A.cell (j := o + (k + 1)) (by omega)
  have r0 := R (o + k)
  have r1 := R (o + (k + 1))
  have e : wordOf f (o + k) = f (o + k) + f (o + (k + 1)) * 256 := rfl
  rw [e]
  obtain ⟨x, hx⟩ : ∃ x, f (o + k) = x := ⟨_, rfl⟩
  obtain ⟨y, hy⟩ : ∃ y, f (o + (k + 1)) = y := ⟨_, rfl⟩
  rw [hx] at c0 r0 ⊢
  rw [hy] at c1 r1 ⊢
  have hor := or16 x y r0.1 r0.2 r1.1 r1.2
  obtain ⟨x0, x1⟩ := r0
  obtain ⟨y0, y1⟩ := r1
  clear A R e hx hy
  go_enter Try.func68, Try.ntmps68
  go_wp2
  go_quiet (fail)
  go_wp2
  go_ret
  exact ⟨rfl, belowN (Below.refl _ _) _⟩

set_option maxHeartbeats 1000000 in
theorem set_any (A : Da w g f) (k : Nat) (hk : k + 1 < 12) (ho : o + 12 ≤ 104) (x : Int) (x0 : 0 ≤ x) (x1 : x ≤ 65535) :
    Calls Try.prog 70 #[chP g o, .int .i64 k, .int .u16 x] w (Wrote w g (put2 f (o + k) x) (.tuple #[])) := by
  have f0 := A.frozen (o + k)
  have f1 := A.frozen (o + (k + 1))
  have c0 := A.cell (j := o + k) (by omega)
  have c1 := A.cell (j := o + (k + 1)) (by omega)
  have HA := Lib.hid A
  clear A
  go_enter Try.func70, Try.ntmps70
  go_wp2
  go_region_with (fail)
  all_goals
    go_wp2
    go_end0
    exact ⟨rfl, (HA.out.put1 (by omega) _).put1 (by omega) _, (((Upd.refl _ _).set _ _).set _ _).drew⟩

set_option maxHeartbeats 1000000 in
theorem next_any (A : Da w g f) (R : Rng f) (k : Nat) (hk : k + 1 < 12) (ho : o + 12 ≤ 104) :
    Calls Try.prog 69 #[chP g o, .int .i64 k] w (Wrote w g (put2 f (o + k) ((wordOf f (o + k) + 1) % 65536)) (.tuple #[])) := by
  have wc := Lib.hid (word_any A R k hk ho)
  have sc := Lib.hid (fun (w' : World) (A' : Da w' g f) => set_any A' k hk ho ((wordOf f (o + k) + 1) % 65536) (by omega) (by omega))
  obtain ⟨z0, z1⟩ := wordOf_rng R (o + k)
  have HA := Lib.hid A
  clear A R
  obtain ⟨z, hz⟩ : ∃ z, wordOf f (o + k) = z := ⟨_, rfl⟩
  rw [hz] at sc wc z0 z1 ⊢
  have ew : IntKind.u16.wrap (z + 1) = (z + 1) % 65536 := by rw [IntKind.wrap_u16]
  clear hz
  go_enter Try.func69, Try.ntmps69
  go_wp2_with fail
  refine wc.out.mono ?_
  rintro e w1 ⟨rfl, hb⟩
  have S := Lib.hid (sc.out w1 (HA.out.kept hb))
  have U := Lib.hid (Upd.ofBelow hb g)
  clear hb
  go_wp2_with fail
  refine S.out.mono ?_
  rintro e w2 ⟨rfl, ha, hu⟩
  have HA2 := Lib.hid ha
  have U2 := Lib.hid (U.out.trans hu)
  clear ha hu
  go_wp2_with fail
  go_end0
  exact ⟨rfl, HA2.out, U2.out⟩

def lenOf (m : Int) : Int := if m % 8 = 0 then 1 else if m % 8 = 1 ∨ m % 8 = 2 ∨ m % 8 = 6 then 2 else 4
def liesOf (f : Nat → Int) (b k : Nat) : Int := f b * 65536 + wordOf f k
set_option maxHeartbeats 1000000 in
theorem lies_any (A : Da w g f) (R : Rng f) (b k : Nat) (hb : b < 12) (hk : k + 1 < 12) (ho : o + 12 ≤ 104) :
    Calls Try.prog 39 #[chP g o, .int .i64 b, .int .i64 k] w (Says w (.int .u32 (liesOf f (o + b) (o + k)))) := by
  have wc := Lib.hid (fun (w' : World) (A' : Da w' g f) => word_any A' R k hk ho)
  obtain ⟨z0, z1⟩ := wordOf_rng R (o + k)
  have r0 := R (o + b)
  have c0 := A.cell (j := o + b) (by omega)
  have HA := Lib.hid A
  have hlt := A.lt
  have e : liesOf f (o + b) (o + k) = f (o + b) * 65536 + wordOf f (o + k) := rfl
  rw [e]
  clear A R e
  obtain ⟨z, hz⟩ : ∃ z, wordOf f (o + k) = z := ⟨_, rfl⟩
  obtain ⟨x, hx⟩ : ∃ z, f (o + b) = z := ⟨_, rfl⟩
  rw [hz] at wc z0 z1 ⊢
  rw [hx] at c0 r0 ⊢
  obtain ⟨x0, x1⟩ := r0
  have hor := or32 x z x0 x1 z0 z1
  clear hz hx
  go_enter Try.func39, Try.ntmps39
  go_wp2_with fail
  refine wp_region_more (by kernel_rfl) (by kernel_rfl) ?_
  repeat (go_big_quiet_step ((first
    | (go_at_call 68; exact quiet_more ((wc.out _ (HA.out.more _)).mono (fun _ _ h => h))))))
  refine wpQuiet_nil ?_
  rintro _ ⟨nq, rfl⟩
  go_wp2
  go_ret
  exact ⟨rfl, by repeat (first | exact Below.refl _ _ | apply belowM | apply belowA)⟩

def kindOf (m : Int) : Int := if bits .and .u8 m 128 != 0 then 3 else 2
/-- The n-th port of a pattern. -/
def patOf (m n : Int) : Int := if m % 8 = 1 ∨ m % 8 = 5 then n % 2 else if m % 8 = 3 ∨ m % 8 = 7 then n / 2 % 2 else if m % 8 = 4 then n % 4 else 0
abbrev trV (k a b : Int) : Value := .agg #[.int .u8 k, .int .u32 a, .int .u8 b]
def pats : ByteArray := ⟨#[48, 48, 48, 48, 48, 49, 48, 49, 48, 48, 48, 48, 48, 48, 49, 49, 48, 49, 50, 51, 48, 49, 48, 49, 48, 48, 48, 48, 48, 48, 49, 49]⟩
def patB (i : Int) : Int := ((pats[i.toNat]?).getD 0).toNat
@[go_sem high] theorem fold_pats : (⟨#[48, 48, 48, 48, 48, 49, 48, 49, 48, 48, 48, 48, 48, 48, 49, 49, 48, 49, 50, 51, 48, 49, 48, 49, 48, 48, 48, 48, 48, 48, 49, 49]⟩ : ByteArray) = pats := rfl
theorem pats_size : pats.size = 32 := by decide +kernel
@[go_sem high] theorem run_index_pats {P : Program} (w : World) (t : TypeId) (k : IntKind) (i : Int) (h : P.underlying t = some .string) (h0 : 0 ≤ i) (h1 : i ≤ 31) :
    (Instr.index t (.string pats) (.int k i)).run P w = .ok (.int .u8 (patB i)) w := by
  have hi : 0 ≤ i ∧ i < (pats.size : Int) := by rw [pats_size]; omega
  have h2 : i.toNat < pats.size := by rw [pats_size]; omega
  rw [run_index_string w t pats k i h, dif_pos hi]
  simp only [patB, ByteArray.getElem?_lt' _ _ h2, Option.getD_some]
theorem patB_is (m n : Int) (m0 : 0 ≤ m) (m1 : m ≤ 7) (n0 : 0 ≤ n) (n1 : n ≤ 3) : patB (4 * m + n) = 48 + patOf m n := by
  have h : ∀ a : Fin 8, ∀ b : Fin 4, patB (4 * (a.val : Int) + (b.val : Int)) = 48 + patOf a.val b.val := by decide +kernel
  have := h ⟨m.toNat, by omega⟩ ⟨n.toNat, by omega⟩
  simp only [] at this
  rwa [Int.toNat_of_nonneg m0, Int.toNat_of_nonneg n0] at this
theorem patOf_mod (m n : Int) : patOf (m % 8) (n % 4) = patOf m n := by
  unfold patOf
  rw [Int.emod_emod_of_dvd m (by decide : (8:Int) ∣ 8)]
  have h1 : n % 4 % 2 = n % 2 := by omega
  have h2 : n % 4 / 2 % 2 = n / 2 % 2 := by omega
  have h3 : n % 4 % 4 = n % 4 := by omega
  rw [h1, h2, h3]
theorem patOf_rng (m n : Int) : 0 ≤ patOf m n ∧ patOf m n ≤ 3 := by unfold patOf; split <;> (try split) <;> (try split) <;> omega
theorem and7 (m : Int) (h0 : 0 ≤ m) (h1 : m ≤ 255) : bits .and .u8 m 7 = m % 8 := byte_fact (P := fun m => bits .and .u8 m 7 = m % 8) (by decide +kernel) m h0 h1
theorem and3 (m : Int) (h0 : 0 ≤ m) (h1 : m ≤ 255) : bits .and .u8 m 3 = m % 4 := byte_fact (P := fun m => bits .and .u8 m 3 = m % 4) (by decide +kernel) m h0 h1

set_option maxHeartbeats 1000000 in
theorem moving_any (A : Da w g f) (R : Rng f) (a n : Int) (n0 : 0 ≤ n) (n1 : n ≤ 255) (ho : o + 12 ≤ 104) :
    Calls Try.prog 38 #[chP g o, .int .u32 a, .int .u8 n] w (Says w (trV (kindOf (f o)) a ((f (o + 1) + patOf (f o) n) % 256))) := by
  have c0 := A.cell (j := o) (by omega)
  have c1 := A.cell (j := o + 1) (by omega)
  have r0 := R o
  have r1 := R (o + 1)
  have hlt := A.lt
  obtain ⟨m, hm⟩ : ∃ z, f o = z := ⟨_, rfl⟩
  obtain ⟨t, ht⟩ : ∃ z, f (o + 1) = z := ⟨_, rfl⟩
  rw [hm] at c0 r0 ⊢
  rw [ht] at c1 r1 ⊢
  obtain ⟨m0, m1⟩ := r0
  obtain ⟨t0, t1⟩ := r1
  have e1 := and7 m m0 m1
  have e2 := patB_is (m % 8) (n % 4) (by omega) (by omega) (by omega) (by omega)
  rw [patOf_mod] at e2
  have pr := patOf_rng m n
  obtain ⟨p, hp⟩ : ∃ p, patOf m n = p := ⟨_, rfl⟩
  rw [hp] at e2 pr ⊢
  obtain ⟨p0, p1⟩ := pr
  have j0 : 0 ≤ 4 * (m % 8) + n % 4 := by omega
  have j1 : 4 * (m % 8) + n % 4 ≤ 31 := by omega
  unfold kindOf
  obtain ⟨q, hq⟩ : ∃ q : Bool, (bits .and .u8 m 128 != 0) = q := ⟨_, rfl⟩
  rw [hq]
  clear A R hm ht hp
  have hw : IntKind.u8.wrap (t + p) = (t + p) % 256 := by rw [IntKind.wrap_u8]
  go_enter Try.func38, Try.ntmps38
  cases q
  · go_wp2_with fail
    exact bodyPost_ret (v := trV 2 a ((t + p) % 256)) (by simp [results, Try.results38, go_sem]; try omega) rfl ⟨rfl, by repeat (first | exact Below.refl _ _ | apply belowD | apply belowA | (refine belowS ?_ (by simp) _))⟩
  · go_wp2_with fail
    exact bodyPost_ret (v := trV 3 a ((t + p) % 256)) (by simp [results, Try.results38, go_sem]; try omega) rfl ⟨rfl, by repeat (first | exact Below.refl _ _ | apply belowD | apply belowA | (refine belowS ?_ (by simp) _))⟩
end
end Go.Proofs.Ytkeikkkcmackeaa

namespace Go.Proofs.Ytkeikkkcmackeaa
open Go.RowKit
set_option linter.unusedVariables false
set_option linter.unusedSimpArgs false
set_option maxRecDepth 100000

/-- The byte of a port. -/
def plc (p : Int) : Option Nat :=
  if p < 17152 ∨ 17279 < p then none else if p % 16 = 15 then some ((p / 16 % 8 * 12 + 11).toNat) else if 11 < p % 16 then none else some ((p / 16 % 8 * 12 + p % 16).toNat)
theorem plc_lt {p : Int} {i : Nat} (h : plc p = some i) : i < 96 := by
  unfold plc at h
  split at h
  · cases h
  · split at h
    · cases h; omega
    · split at h
      · cases h
      · cases h; omega
def plcV (g : Nat) (p : Int) : Value := match plc p with | none => .pointer none | some i => .pointer (some ⟨g, i, none⟩)
theorem and15 (m : Int) (h0 : 0 ≤ m) (h1 : m ≤ 65535) : bits .and .u16 m 15 = m % 16 := by
  have := u16_and_nat m.toNat 15 (by omega) (by omega)
  rw [Int.toNat_of_nonneg h0, show (15 : Nat) = 2 ^ 4 - 1 by decide, Nat.and_two_pow_sub_one_eq_mod] at this
  rw [show ((2 ^ 4 - 1 : Nat) : Int) = 15 by decide] at this
  rw [this]; omega
theorem and7w (m : Int) (h0 : 0 ≤ m) (h1 : m ≤ 65535) : bits .and .u16 m 7 = m % 8 := by
  have := u16_and_nat m.toNat 7 (by omega) (by omega)
  rw [Int.toNat_of_nonneg h0, show (7 : Nat) = 2 ^ 3 - 1 by decide, Nat.and_two_pow_sub_one_eq_mod] at this
  rw [show ((2 ^ 3 - 1 : Nat) : Int) = 7 by decide] at this
  rw [this]; omega

section
variable {w : World} {g : Nat} {f : Nat → Int}
set_option maxHeartbeats 1000000 in
theorem new_any (w : World) : Calls Try.prog 9 #[] w fun e w' => ∃ g, e = .returned (.pointer (some ⟨g, 0, none⟩)) ∧ w.heap.size ≤ g ∧ Da w' g (fun _ => 0) ∧ Below w.heap.size w w' := by
  go_enter Try.func9, Try.ntmps9
  go_wp2_with fail
  go_ret
  refine ⟨w.heap.size, rfl, Nat.le_refl _, ⟨Array.replicate 104 (.int .u8 0), ?_, by simp, fun j hj => by simp [hj]⟩, belowA (Below.refl _ _) _⟩
  exact Blk.new w 71 (Array.replicate 104 (.int .u8 0))

set_option maxHeartbeats 1000000 in
theorem place_any (A : Da w g f) (p : Int) (p0 : 0 ≤ p) (p1 : p ≤ 65535) :
    Calls Try.prog 35 #[.pointer (some ⟨g, 0, none⟩), .int .u16 p] w (Says w (plcV g p)) := by
  have e1 := and15 p p0 p1
  have e2 := and7w (p / 16) (by omega) (by omega)
  have PL : ∀ v, plcV g p = v → Hid (plcV g p = v) := fun v h => h
  by_cases c1 : p < 17152
  · have h := PL (.pointer none) (by unfold plcV plc; rw [if_pos (Or.inl c1)])
    rw [h.out]
    clear PL h A
    go_enter Try.func35, Try.ntmps35
    go_wp2_with fail
    go_ret
    exact ⟨rfl, Below.refl _ _⟩
  by_cases c2 : 17279 < p
  · have h := PL (.pointer none) (by unfold plcV plc; rw [if_pos (Or.inr c2)])
    rw [h.out]
    clear PL h A
    go_enter Try.func35, Try.ntmps35
    go_wp2_with fail
    go_ret
    exact ⟨rfl, Below.refl _ _⟩
  by_cases c3 : p % 16 = 15
  · obtain ⟨q, hq⟩ : ∃ q : Nat, (q : Int) = p / 16 % 8 := ⟨(p / 16 % 8).toNat, by omega⟩
    have h := PL (.pointer (some ⟨g, q * 12 + 11, none⟩)) (by unfold plcV plc; rw [if_neg (by omega), if_pos c3]; simp only [Value.pointer.injEq, Option.some.injEq, Addr.mk.injEq, and_true, true_and]; omega)
    rw [h.out]
    rw [c3] at e1
    rw [← hq] at e2
    have hq8 : q < 8 := by omega
    clear PL h A hq
    go_enter Try.func35, Try.ntmps35
    go_wp2_with fail
    go_ret
    exact ⟨by simp, Below.refl _ _⟩
  by_cases c4 : 11 < p % 16
  · have h := PL (.pointer none) (by unfold plcV plc; rw [if_neg (by omega), if_neg c3, if_pos c4])
    rw [h.out]
    obtain ⟨z, hz⟩ : ∃ z, p % 16 = z := ⟨_, rfl⟩
    rw [hz] at e1 c3 c4
    have z0 : 0 ≤ z := by omega
    have z1 : z ≤ 15 := by omega
    clear PL h A hz
    go_enter Try.func35, Try.ntmps35
    go_wp2_with fail
    go_ret
    exact ⟨rfl, Below.refl _ _⟩
  · obtain ⟨q, hq⟩ : ∃ q : Nat, (q : Int) = p / 16 % 8 := ⟨(p / 16 % 8).toNat, by omega⟩
    obtain ⟨z, hz⟩ : ∃ z : Nat, (z : Int) = p % 16 := ⟨(p % 16).toNat, by omega⟩
    have h := PL (.pointer (some ⟨g, q * 12 + z, none⟩)) (by unfold plcV plc; rw [if_neg (by omega), if_neg c3, if_neg c4]; simp only [Value.pointer.injEq, Option.some.injEq, Addr.mk.injEq, and_true, true_and]; omega)
    rw [h.out]
    rw [← hz] at e1 c3 c4
    rw [← hq] at e2
    have hq8 : q < 8 := by omega
    have hz8 : z ≤ 11 := by omega
    clear PL h A hq hz
    go_enter Try.func35, Try.ntmps35
    go_wp2_with fail
    go_ret
    exact ⟨by simp, Below.refl _ _⟩

/-- The channel of a bit. -/
def bitOf (c : Nat) : Int := 2 ^ c
set_option maxHeartbeats 1000000 in
theorem least_any (A : Da w g f) (c : Nat) (hc : c < 8) (o : Int) (ho : 1 ≤ o ∧ o ≤ 255 ∧ Lib.ntz8 o = c) :
    Calls Try.prog 37 #[.pointer (some ⟨g, 0, none⟩), .int .u8 o] w (Says w (.tuple #[chP g (c * 12), .int .u8 (bitOf c)])) := by
  obtain ⟨o0, o1, o2⟩ := ho
  have hb : ((1 : Int) * 2 ^ c) % 256 = bitOf c := by
    have h : ∀ c : Fin 8, ((1 : Int) * 2 ^ c.val) % 256 = bitOf c.val := by decide +kernel
    exact h ⟨c, hc⟩
  have oo : 0 ≤ o := by omega
  have tz : ∀ w, Calls Try.prog 67 #[.int .u8 o] w (Says w (.int .i64 c)) := by
    intro w
    clear A hb
    go_enter Try.func67, Try.ntmps67
    go_wp2_with fail
    go_ret
    exact ⟨rfl, Below.refl _ _⟩
  have TZ := Lib.hid tz
  have oz : (o == 0) = false := by simp; omega
  clear tz A o2
  go_enter Try.func37, Try.ntmps37
  go_wp2_with fail
  refine (TZ.out _).mono ?_
  rintro e w1 ⟨rfl, hb1⟩
  go_wp2_with fail
  go_quiet (fail)
  go_wp2
  go_ret2
  refine ⟨?_, belowN hb1 _⟩
  show Ending.returned (.tuple #[.pointer (some ⟨g, c * 12, none⟩), .int .u8 (2 ^ c % 256)]) = _
  rw [Int.one_mul] at hb
  rw [hb]
set_option maxHeartbeats 1000000 in
theorem least_none (A : Da w g f) : Calls Try.prog 37 #[.pointer (some ⟨g, 0, none⟩), .int .u8 0] w (Says w (.tuple #[.pointer none, .int .u8 0])) := by
  clear A
  go_enter Try.func37, Try.ntmps37
  go_wp2_with fail
  go_ret2
  exact ⟨rfl, Below.refl _ _⟩
end
end Go.Proofs.Ytkeikkkcmackeaa
