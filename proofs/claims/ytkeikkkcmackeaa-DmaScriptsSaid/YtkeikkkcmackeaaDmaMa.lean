/- dma, the document's Write and Read. -/
import Derived.Test.YtkeikkkcmackeaaDmaKb
import Derived.Test.YtkeikkkcmackeaaDmaKcs
namespace Go.Proofs.Ytkeikkkcmackeaa
open Go.RowKit
set_option linter.unusedVariables false
set_option linter.unusedSimpArgs false
set_option maxRecDepth 100000
/-- The place of a port, as the document tells it. -/
def plD (p : Int) : Int × Int := match plc p with | none => (-1, 0) | some i => ((i / 12 : Nat), (i % 12 : Nat))
set_option maxHeartbeats 4000000 in
theorem dplace_any (p : Int) (p0 : 0 ≤ p) (p1 : p ≤ 65535) (w : World) :
    Calls Try.prog 46 #[.int .u16 p] w (Says w (.tuple #[.int .i64 (plD p).1, .int .i64 (plD p).2])) := by
  have wp : IntKind.i64.wrap p = p := by rw [IntKind.wrap_i64]; omega
  have em : p.tmod 16 = p % 16 := Int.tmod_eq_emod_of_nonneg p0
  have ed : p.tdiv 16 = p / 16 := Int.tdiv_eq_ediv_of_nonneg p0
  have wd : IntKind.i64.wrap (p / 16) = p / 16 := by rw [IntKind.wrap_i64]; omega
  have ee : (p / 16).tmod 8 = p / 16 % 8 := Int.tmod_eq_emod_of_nonneg (by omega)
  by_cases h1 : p < 17152
  · have e : plD p = (-1, 0) := by unfold plD plc; rw [if_pos (Or.inl h1)]
    rw [e]
    clear e
    go_enter Try.func46, Try.ntmps46
    go_wp2_with fail
    go_ret2
    exact ⟨rfl, Below.refl _ _⟩
  by_cases h2 : 17279 < p
  · have e : plD p = (-1, 0) := by unfold plD plc; rw [if_pos (Or.inr h2)]
    rw [e]
    have h1' : 17152 ≤ p := by omega
    clear e
    go_enter Try.func46, Try.ntmps46
    go_wp2_with fail
    go_ret2
    exact ⟨rfl, Below.refl _ _⟩
  have h1' : 17152 ≤ p := by omega
  have h2' : p ≤ 17279 := by omega
  have hnot : ¬ (p < 17152 ∨ 17279 < p) := by omega
  obtain ⟨q, hq⟩ : ∃ q, p % 16 = q := ⟨_, rfl⟩
  obtain ⟨d, hd⟩ : ∃ q, p / 16 = q := ⟨_, rfl⟩
  obtain ⟨b, hb⟩ : ∃ q, d % 8 = q := ⟨_, rfl⟩
  have d0 : 0 ≤ d := by omega
  have b0 : 0 ≤ b := by omega
  have b1 : b ≤ 7 := by omega
  have q0 : 0 ≤ q := by omega
  by_cases h3 : q = 15
  · have e : plD p = (b, 11) := by
      unfold plD plc
      rw [if_neg hnot, if_pos (by rw [hq]; exact h3)]
      simp only [Prod.mk.injEq]
      rw [hd, hb]
      omega
    rw [e]
    rw [hq] at em
    rw [hd] at ed wd ee
    rw [hb] at ee
    subst h3
    clear e hq hd hb hnot h1 h2
    go_enter Try.func46, Try.ntmps46
    go_wp2_with fail
    go_ret2
    exact ⟨rfl, Below.refl _ _⟩
  by_cases h4 : 11 < q
  · have e : plD p = (-1, 0) := by
      unfold plD plc
      rw [if_neg hnot, if_neg (by rw [hq]; exact h3), if_pos (by rw [hq]; exact h4)]
    rw [e]
    have t3 : (q == 15) = false := by simpa using h3
    rw [hq] at em
    clear e hq hd hb hnot h1 h2 h3
    go_enter Try.func46, Try.ntmps46
    go_wp2_with fail
    go_ret2
    exact ⟨rfl, Below.refl _ _⟩
  · have e : plD p = (b, q) := by
      unfold plD plc
      rw [if_neg hnot, if_neg (by rw [hq]; exact h3), if_neg (by rw [hq]; exact h4)]
      simp only [Prod.mk.injEq]
      rw [hd, hb, hq]
      omega
    rw [e]
    have t3 : (q == 15) = false := by simpa using h3
    have t4 : q ≤ 11 := by omega
    rw [hq] at em
    rw [hd] at ed wd ee
    rw [hb] at ee
    clear e hq hd hb hnot h1 h2 h3 h4
    go_enter Try.func46, Try.ntmps46
    go_wp2_with fail
    go_ret2
    exact ⟨rfl, Below.refl _ _⟩
section
variable {w : World} {B : Nat} {f : Nat → Int}
set_option maxHeartbeats 2000000 in
theorem dreadp_any (A : Ra w B f) (p : Int) (p0 : 0 ≤ p) (p1 : p ≤ 65535) :
    Calls Try.prog 21 #[at_ B 0, .int .u16 p] w (Says w (rdV f p)) := by
  have PL := Lib.hid (dplace_any p p0 p1 w)
  cases hp : plc p with
  | none =>
    have e : plD p = (-1, 0) := by unfold plD; rw [hp]
    have e2 : rdV f p = .tuple #[.int .u8 0, .bool false] := by unfold rdV; rw [hp]
    rw [e] at PL
    rw [e2]
    clear A hp e e2
    go_enter Try.func21, Try.ntmps21
    go_wp2_with fail
    refine PL.out.mono ?_
    rintro e w1 ⟨rfl, b1⟩
    go_wp2_with fail
    go_ret2
    exact ⟨rfl, b1⟩
  | some i =>
    have hi := plc_lt hp
    have e : plD p = (((i / 12 : Nat) : Int), ((i % 12 : Nat) : Int)) := by unfold plD; rw [hp]
    have e2 : rdV f p = .tuple #[.int .u8 (f i), .bool true] := by unfold rdV; rw [hp]
    rw [e] at PL
    rw [e2]
    obtain ⟨c, hc⟩ : ∃ c, i / 12 = c := ⟨_, rfl⟩
    obtain ⟨k, hk⟩ : ∃ c, i % 12 = c := ⟨_, rfl⟩
    rw [hc, hk] at PL
    have hck : c * 12 + k = i := by omega
    have K1 : Hid (∀ w', Below w.heap.size w w' → w'.cell? ⟨B, c * 12 + k, none⟩ = some (.int .u8 (f i))) := Lib.hid (fun w' hb => by rw [hck]; exact keepC hb (A.cell (j := i) (by omega)))
    have zc : (c : Int) < 8 := by omega
    have zk : (k : Int) < 12 := by omega
    have zn : (0 : Int) ≤ c := by omega
    clear A hp e e2 hc hk hi hck
    go_enter Try.func21, Try.ntmps21
    go_wp2_with fail
    refine PL.out.mono ?_
    rintro e w1 ⟨rfl, b1⟩
    have c1 := K1.out w1 b1
    go_wp2_with fail
    go_ret2
    exact ⟨rfl, b1⟩
set_option maxHeartbeats 2000000 in
theorem dwrite_byte (A : Ra w B f) (p v : Int) (p0 : 0 ≤ p) (p1 : p ≤ 65535) (h1 : p ≠ 16907) (h2 : p ≠ 16908) :
    Calls Try.prog 20 #[at_ B 0, .int .u16 p, .int .u8 v] w (WroteR w B (match plc p with | none => (false, f) | some i => (true, put1 f i v)).2 (.bool (match plc p with | none => (false, f) | some i => (true, put1 f i v)).1)) := by
  have PL := Lib.hid (dplace_any p p0 p1 w)
  have t1 : (p == 16907) = false := by simpa using h1
  have t2 : (p == 16908) = false := by simpa using h2
  cases hp : plc p with
  | none =>
    have e : plD p = (-1, 0) := by unfold plD; rw [hp]
    rw [e] at PL
    have HA := Lib.hid A
    clear A hp e h1 h2
    go_enter Try.func20, Try.ntmps20
    go_wp2_with fail
    refine PL.out.mono ?_
    rintro e w1 ⟨rfl, b1⟩
    have A1 := Lib.hid (HA.out.kept b1)
    have U1 := Lib.hid (Upd.ofBelow b1 B)
    clear b1
    go_wp2_with fail
    go_ret
    exact ⟨rfl, A1.out, U1.out⟩
  | some i =>
    have hi := plc_lt hp
    have e : plD p = (((i / 12 : Nat) : Int), ((i % 12 : Nat) : Int)) := by unfold plD; rw [hp]
    rw [e] at PL
    obtain ⟨c, hc⟩ : ∃ c, i / 12 = c := ⟨_, rfl⟩
    obtain ⟨k, hk⟩ : ∃ c, i % 12 = c := ⟨_, rfl⟩
    rw [hc, hk] at PL
    have hck : c * 12 + k = i := by omega
    have HA : Hid (∀ w', Below w.heap.size w w' → w'.cell? ⟨B, c * 12 + k, none⟩ = some (.int .u8 (f i)) ∧ w'.frozen? ⟨B, c * 12 + k, none⟩ = false ∧ Ra (w'.setCell ⟨B, c * 12 + k, none⟩ (.int .u8 v)) B (put1 f i v)) := Lib.hid (fun w' hb => by
      rw [hck]
      have a := Arr.kept A hb
      exact ⟨a.cell (j := i) (by omega), a.frozen i, Ra.put1 a (by omega) v⟩)
    have zc : (c : Int) < 8 := by omega
    have zk : (k : Int) < 12 := by omega
    have zn : (0 : Int) ≤ c := by omega
    clear A hp e hc hk hi hck h1 h2
    go_enter Try.func20, Try.ntmps20
    go_wp2_with fail
    refine PL.out.mono ?_
    rintro e w1 ⟨rfl, b1⟩
    obtain ⟨c1, f1, a1⟩ := HA.out w1 b1
    have A1 := Lib.hid a1
    have U1 := Lib.hid (Upd.ofBelow b1 B)
    clear b1 a1
    go_wp2_with fail
    go_ret
    exact ⟨rfl, A1.out, U1.out.set _ _⟩
set_option maxHeartbeats 2000000 in
theorem dwrite_tab (A : Ra w B f) (v : Int) :
    Calls Try.prog 20 #[at_ B 0, .int .u16 16908, .int .u8 v] w (WroteR w B (put1 f 98 v) (.bool true)) := by
  have c98 := A.cell (j := 98) (by omega)
  have f98 := A.frozen 98
  have A2 := Lib.hid (Ra.put1 A (i := 98) (by omega) v)
  clear A
  go_enter Try.func20, Try.ntmps20
  go_wp2_with fail
  go_ret
  exact ⟨rfl, A2.out, (Upd.refl _ _).set _ _⟩
end
end Go.Proofs.Ytkeikkkcmackeaa
