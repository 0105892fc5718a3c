/- The pieces of a board's layouts: each closure's contract. -/
import Derived.Test.YtbfpacngphjkcaaPlaceW
import Derived.Test.YtbfpacngphjkcaaKitB
namespace Go.Proofs.Ytbfpacngphjkcaa
open Go.RowKit
set_option linter.unusedVariables false
set_option linter.unusedSectionVars false
set_option linter.unusedSimpArgs false

theorem bits_bank {f : Int → Int} {m : Int} (h : ∀ n : Fin 256, bits .and .i64 (n.val : Int) m = f n.val) (b : Int) (h0 : 0 ≤ b) (h1 : b ≤ 255) : bits .and .i64 b m = f b := by
  have := h ⟨b.toNat, by omega⟩
  simp only [] at this
  rwa [Int.toNat_of_nonneg h0] at this
theorem and112 (b : Int) (h0 : 0 ≤ b) (h1 : b ≤ 255) : bits .and .i64 b 112 = b / 16 % 8 * 16 := bits_bank (f := fun b => b / 16 % 8 * 16) (by decide +kernel) b h0 h1
theorem and15 (b : Int) (h0 : 0 ≤ b) (h1 : b ≤ 255) : bits .and .i64 b 15 = b % 16 := bits_bank (f := fun b => b % 16) (by decide +kernel) b h0 h1
theorem and127 (b : Int) (h0 : 0 ≤ b) (h1 : b ≤ 255) : bits .and .i64 b 127 = b % 128 := bits_bank (f := fun b => b % 128) (by decide +kernel) b h0 h1
theorem and31 (b : Int) (h0 : 0 ≤ b) (h1 : b ≤ 255) : bits .and .i64 b 31 = b % 32 := bits_bank (f := fun b => b % 32) (by decide +kernel) b h0 h1
theorem and64 (b : Int) (h0 : 0 ≤ b) (h1 : b ≤ 255) : bits .and .i64 b 64 = b / 64 % 2 * 64 := bits_bank (f := fun b => b / 64 % 2 * 64) (by decide +kernel) b h0 h1
theorem and63 (b : Int) (h0 : 0 ≤ b) (h1 : b ≤ 255) : bits .and .i64 b 63 = b % 64 := bits_bank (f := fun b => b % 64) (by decide +kernel) b h0 h1

def loRam (b p : Int) : Bool := decide (b / 16 % 8 = 7 ∧ p < 32768)
def hiRam (b p : Int) : Bool := decide (32 ≤ b % 128 ∧ b % 128 ≤ 63 ∧ 24576 ≤ p ∧ p < 32768)
def loRom (p : Int) : Bool := decide (32768 ≤ p)
def hiRom (b p : Int) : Bool := decide (b / 64 % 2 = 1 ∨ 32768 ≤ p)

section
variable (b p : Int) (w : World) (h0 : 0 ≤ b) (h1 : b ≤ 255) (g0 : 0 ≤ p) (g1 : p ≤ 65535)
include h0 h1 g0 g1
theorem lo1 : Calls Try.prog 37 #[.int .i64 b, .int .i64 p] w fun e w' => e = .returned (.bool (loRam b p)) ∧ w = w' := by
  have e1 := and112 b h0 h1
  by_cases c : b / 16 % 8 = 7
  · have e2 : (b / 16 % 8 * 16 == 112) = true := by simp; omega
    have C := Lib.hid c
    clear c
    go_enter Try.func37, Try.ntmps37
    go_wp2
    go_ret
    exact ⟨congrArg (fun z => Ending.returned (.bool z)) (by have := C.out; simp [loRam, this]), rfl⟩
  · have e2 : (b / 16 % 8 * 16 == 112) = false := by simp; omega
    have C := Lib.hid c
    clear c
    go_enter Try.func37, Try.ntmps37
    go_wp2
    go_ret
    exact ⟨congrArg (fun z => Ending.returned (.bool z)) (by have := C.out; simp [loRam, this]), rfl⟩
theorem lo2 : Calls Try.prog 38 #[.int .i64 b, .int .i64 p] w fun e w' => e = .returned (.int .i64 (b % 16 * 32768 + p)) ∧ w = w' := by
  have e1 := and15 b h0 h1
  go_enter Try.func38, Try.ntmps38
  go_wp2
  go_ret
  exact ⟨rfl, rfl⟩
theorem lo3 : Calls Try.prog 39 #[.int .i64 b, .int .i64 p] w fun e w' => e = .returned (.bool (loRom p)) ∧ w = w' := by
  go_enter Try.func39, Try.ntmps39
  go_wp2
  go_ret
  exact ⟨rfl, rfl⟩
theorem lo4 (hp : 32768 ≤ p) : Calls Try.prog 40 #[.int .i64 b, .int .i64 p] w fun e w' => e = .returned (.int .i64 (b % 128 * 32768 + p - 32768)) ∧ w = w' := by
  have e1 := and127 b h0 h1
  go_enter Try.func40, Try.ntmps40
  go_wp2
  go_ret
  exact ⟨rfl, rfl⟩
theorem hi1 : Calls Try.prog 41 #[.int .i64 b, .int .i64 p] w fun e w' => e = .returned (.bool (hiRam b p)) ∧ w = w' := by
  have e1 := and127 b h0 h1
  have hc : (b % 128 < 32) ∨ (32 ≤ b % 128 ∧ 63 < b % 128) ∨ (32 ≤ b % 128 ∧ b % 128 ≤ 63 ∧ p < 24576) ∨ (32 ≤ b % 128 ∧ b % 128 ≤ 63 ∧ 24576 ≤ p) := by omega
  rcases hc with c | ⟨c, d⟩ | ⟨c, d, f⟩ | ⟨c, d, f⟩
  all_goals
    go_enter Try.func41, Try.ntmps41
    go_wp2
    go_ret
    unfold hiRam
    refine ⟨?_, rfl⟩
    first | exact congrArg (fun z => Ending.returned (.bool z)) (decide_eq_false (by omega)).symm | exact congrArg (fun z => Ending.returned (.bool z)) (decide_eq_decide.2 ⟨by omega, by omega⟩)
theorem hi2 : Calls Try.prog 43 #[.int .i64 b, .int .i64 p] w fun e w' => e = .returned (.int .i64 (b % 32 * 8192 + p - 24576)) ∧ w = w' := by
  have e1 := and31 b h0 h1
  go_enter Try.func43, Try.ntmps43
  go_wp2
  go_ret
  exact ⟨rfl, rfl⟩
theorem hi3 : Calls Try.prog 44 #[.int .i64 b, .int .i64 p] w fun e w' => e = .returned (.bool (hiRom b p)) ∧ w = w' := by
  have e1 := and64 b h0 h1
  by_cases c : b / 64 % 2 = 1
  · have e2 : (b / 64 % 2 * 64 != 0) = true := by simp; omega
    have C := Lib.hid c
    clear c
    go_enter Try.func44, Try.ntmps44
    go_wp2
    go_ret
    exact ⟨congrArg (fun z => Ending.returned (.bool z)) (by have := C.out; simp [hiRom, this]), rfl⟩
  · have e2 : (b / 64 % 2 * 64 != 0) = false := by simp; omega
    have C := Lib.hid c
    clear c
    go_enter Try.func44, Try.ntmps44
    go_wp2
    go_ret
    exact ⟨congrArg (fun z => Ending.returned (.bool z)) (by have := C.out; simp [hiRom, this]), rfl⟩
def hiAt (more b p : Int) : Int := b % 64 * 65536 + p + (if b < 128 then more else 0)
theorem hi4 (a : Addr) (more : Int) (hm : more = 0 ∨ more = 4194304) (hc : w.cell? a = some (.int .i64 more)) : Calls Try.prog 45 #[.int .i64 b, .int .i64 p, .pointer (some a)] w fun e w' => e = .returned (.int .i64 (hiAt more b p)) ∧ w = w' := by
  have e1 := and63 b h0 h1
  have hm' : 0 ≤ more ∧ more ≤ 4194304 := by omega
  obtain ⟨m0, m1⟩ := hm'
  clear hm
  by_cases c : b < 128
  all_goals
    go_enter Try.func45, Try.ntmps45
    go_wp2
    go_ret
    exact ⟨congrArg (fun z => Ending.returned (.int .i64 z)) (by simp [hiAt]; omega), rfl⟩
end
end Go.Proofs.Ytbfpacngphjkcaa
