/- Done, while tables are under way. -/
import Derived.Test.YtkeikkkcmackeaaDmaL
namespace Go.Proofs.Ytkeikkkcmackeaa
open Go.RowKit
set_option linter.unusedVariables false
set_option linter.unusedSimpArgs false
set_option maxRecDepth 100000
section
variable {w : World} {g : Nat} {f : Nat → Int}
set_option maxHeartbeats 1000000 in
theorem done_entry (A : Da w g f) (R : Rng f) (c : Nat) (hc : c < 8) (hb : f 102 = bitOf c) (hs : f 103 = 8) (hm : f (c * 12) / 64 % 2 = 0) (hw : f 101 ≠ 0) (v : Int) :
    Calls Try.prog 14 #[.pointer (some ⟨g, 0, none⟩), .int .u8 v] w (Wrote w g (entF c v f) (.tuple #[])) := by
  have c101 := A.cell (j := 101) (by omega)
  have c103 := A.cell (j := 103) (by omega)
  rw [hs] at c103
  have t : (f 101 == 0) = false := by simpa using hw
  obtain ⟨y, hy⟩ : ∃ y, f 101 = y := ⟨_, rfl⟩
  rw [hy] at c101 t
  have MD := Lib.hid (entry_any A R c hc hb hs hm v)
  clear A R hb hs hm hw hy
  go_enter Try.func14, Try.ntmps14
  go_wp2_with fail
  refine MD.out.mono ?_
  rintro e w2 ⟨rfl, ha, hu⟩
  have HA := Lib.hid ha
  have HU := Lib.hid hu
  clear ha hu
  go_wp2_with fail
  go_end0
  exact ⟨rfl, HA.out, HU.out⟩
set_option maxHeartbeats 1000000 in
theorem done_unit (A : Da w g f) (R : Rng f) (c : Nat) (hc : c < 8) (hb : f 102 = bitOf c) (hs : f 103 < 8) (hm : f (c * 12) / 64 % 2 = 0) (hw : f 101 ≠ 0) (v : Int) :
    Calls Try.prog 14 #[.pointer (some ⟨g, 0, none⟩), .int .u8 v] w (Wrote w g (uniF c f) (.tuple #[])) := by
  have c101 := A.cell (j := 101) (by omega)
  have c103 := A.cell (j := 103) (by omega)
  have t2 : ¬ 8 ≤ f 103 := by omega
  have t : (f 101 == 0) = false := by simpa using hw
  obtain ⟨y, hy⟩ : ∃ y, f 101 = y := ⟨_, rfl⟩
  obtain ⟨s, hs'⟩ : ∃ y, f 103 = y := ⟨_, rfl⟩
  rw [hy] at c101 t
  rw [hs'] at c103 t2
  have MD := Lib.hid (unit_any A R c hc hb hm v)
  clear A R hb hs hm hw hy hs'
  go_enter Try.func14, Try.ntmps14
  go_wp2_with fail
  refine MD.out.mono ?_
  rintro e w2 ⟨rfl, ha, hu⟩
  have HA := Lib.hid ha
  have HU := Lib.hid hu
  clear ha hu
  go_wp2_with fail
  go_end0
  exact ⟨rfl, HA.out, HU.out⟩
end
end Go.Proofs.Ytkeikkkcmackeaa
