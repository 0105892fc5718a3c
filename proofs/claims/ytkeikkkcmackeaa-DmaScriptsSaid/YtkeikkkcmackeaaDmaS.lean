/- dma: the places of what is saved. -/
import Derived.Test.YtkeikkkcmackeaaDmaC
import Derived.Test.YtkeikkkcmackeaaTail
namespace Go.Proofs.Ytkeikkkcmackeaa
open Go.RowKit
set_option linter.unusedVariables false
set_option linter.unusedSimpArgs false
set_option maxRecDepth 100000
abbrev at_ (g o : Nat) : Value := .pointer (some ⟨g, o, none⟩)
def plS (l : List Value) (i : Nat) (v : Value) (_ : List Value) (_ : World) : Prop := v = l.getD i undef
def evE (a b : World) : Prop := a = b

def bytesV (g : Nat) : Array Value := #[at_ g 96, at_ g 97, at_ g 98, at_ g 99, at_ g 100, at_ g 101, at_ g 102, at_ g 103]
def bytesO : List Nat := [96, 97, 98, 99, 100, 101, 102, 103]
theorem bytes_idx (g k : Nat) (hk : k < 8) (w : World) : (Instr.index 106 (.agg (bytesV g)) (.int .i64 k)).run Try.prog w = .ok (.pointer (some ⟨g, bytesO.getD k 0, none⟩)) w := by
  rcases (show k = 0 ∨ k = 1 ∨ k = 2 ∨ k = 3 ∨ k = 4 ∨ k = 5 ∨ k = 6 ∨ k = 7 by omega) with rfl | rfl | rfl | rfl | rfl | rfl | rfl | rfl
  all_goals kernel_rfl

set_option maxHeartbeats 16000000 in
theorem bytesP_any (w : World) (g : Nat) : Calls Try.prog 64 #[at_ g 0] w (Says w (.agg (bytesV g))) := by
  go_enter Try.func64, Try.ntmps64
  go_upto_region 1 with (fail)
  obtain ⟨W2, hW⟩ : ∃ W2, W2 = w.alloc (.cells #[.pointer none, .pointer none, .pointer none, .pointer none, .pointer none, .pointer none, .pointer none, .pointer none] 106) := ⟨_, rfl⟩
  obtain ⟨B, hB⟩ : ∃ B, B = w.heap.size := ⟨_, rfl⟩
  rw [← hW, ← hB]
  have HW := Lib.hid hW
  have HB := Lib.hid hB
  clear hW hB
  try simp only [List.append_eq, List.cons_append, List.nil_append]
  refine wp_region_tail 25 _ rfl rfl rfl (by kernel_rfl) (by kernel_rfl) (by kernel_rfl) (C := fun w' => w' = W2.drew) (S := plS [at_ g 0, at_ g 0, at_ g 96, at_ g 0, at_ g 0, at_ g 97, at_ g 0, at_ g 0, at_ g 98, at_ g 0, at_ g 0, at_ g 99, at_ g 0, at_ g 0, at_ g 100, at_ g 0, at_ g 0, at_ g 101, at_ g 0, at_ g 0, at_ g 102, at_ g 0, at_ g 0, at_ g 103, .agg (bytesV g)]) (Ev := evE) (fun _ _ _ _ _ h _ => h) ?_ ?_ ?_
  · rfl
  · simp only [List.take_succ_cons, List.take_zero, stepsOf]
    refine ⟨fun us w' hw hd => stepOf_plain rfl ?_, fun us w' hw hd => stepOf_plain rfl ?_, fun us w' hw hd => stepOf_plain rfl ?_, fun us w' hw hd => stepOf_plain rfl ?_, fun us w' hw hd => stepOf_plain rfl ?_, fun us w' hw hd => stepOf_plain rfl ?_, fun us w' hw hd => stepOf_plain rfl ?_, fun us w' hw hd => stepOf_plain rfl ?_, fun us w' hw hd => stepOf_plain rfl ?_, fun us w' hw hd => stepOf_plain rfl ?_, fun us w' hw hd => stepOf_plain rfl ?_, fun us w' hw hd => stepOf_plain rfl ?_, fun us w' hw hd => stepOf_plain rfl ?_, fun us w' hw hd => stepOf_plain rfl ?_, fun us w' hw hd => stepOf_plain rfl ?_, fun us w' hw hd => stepOf_plain rfl ?_, fun us w' hw hd => stepOf_plain rfl ?_, fun us w' hw hd => stepOf_plain rfl ?_, fun us w' hw hd => stepOf_plain rfl ?_, fun us w' hw hd => stepOf_plain rfl ?_, fun us w' hw hd => stepOf_plain rfl ?_, fun us w' hw hd => stepOf_plain rfl ?_, fun us w' hw hd => stepOf_plain rfl ?_, fun us w' hw hd => stepOf_plain rfl ?_, fun us w' hw hd => stepOf_plain rfl ?_, trivial⟩
    all_goals simp only [fill, List.filterMap_cons, List.filterMap_nil]
    all_goals subst hw
    · go_simp
      exact ⟨_, rfl, rfl, rfl, rfl⟩
    · have h : us 3 = at_ g 0 := hd.1 rfl
      go_simp
      exact ⟨_, rfl, rfl, rfl, rfl⟩
    · have h : us 4 = at_ g 0 := hd.1 rfl
      go_simp
      exact ⟨_, rfl, rfl, rfl, rfl⟩
    · go_simp
      exact ⟨_, rfl, rfl, rfl, rfl⟩
    · have h : us 6 = at_ g 0 := hd.1 rfl
      go_simp
      exact ⟨_, rfl, rfl, rfl, rfl⟩
    · have h : us 7 = at_ g 0 := hd.1 rfl
      go_simp
      exact ⟨_, rfl, rfl, rfl, rfl⟩
    · go_simp
      exact ⟨_, rfl, rfl, rfl, rfl⟩
    · have h : us 9 = at_ g 0 := hd.1 rfl
      go_simp
      exact ⟨_, rfl, rfl, rfl, rfl⟩
    · have h : us 10 = at_ g 0 := hd.1 rfl
      go_simp
      exact ⟨_, rfl, rfl, rfl, rfl⟩
    · go_simp
      exact ⟨_, rfl, rfl, rfl, rfl⟩
    · have h : us 12 = at_ g 0 := hd.1 rfl
      go_simp
      exact ⟨_, rfl, rfl, rfl, rfl⟩
    · have h : us 13 = at_ g 0 := hd.1 rfl
      go_simp
      exact ⟨_, rfl, rfl, rfl, rfl⟩
    · go_simp
      exact ⟨_, rfl, rfl, rfl, rfl⟩
    · have h : us 15 = at_ g 0 := hd.1 rfl
      go_simp
      exact ⟨_, rfl, rfl, rfl, rfl⟩
    · have h : us 16 = at_ g 0 := hd.1 rfl
      go_simp
      exact ⟨_, rfl, rfl, rfl, rfl⟩
    · go_simp
      exact ⟨_, rfl, rfl, rfl, rfl⟩
    · have h : us 18 = at_ g 0 := hd.1 rfl
      go_simp
      exact ⟨_, rfl, rfl, rfl, rfl⟩
    · have h : us 19 = at_ g 0 := hd.1 rfl
      go_simp
      exact ⟨_, rfl, rfl, rfl, rfl⟩
    · go_simp
      exact ⟨_, rfl, rfl, rfl, rfl⟩
    · have h : us 21 = at_ g 0 := hd.1 rfl
      go_simp
      exact ⟨_, rfl, rfl, rfl, rfl⟩
    · have h : us 22 = at_ g 0 := hd.1 rfl
      go_simp
      exact ⟨_, rfl, rfl, rfl, rfl⟩
    · go_simp
      exact ⟨_, rfl, rfl, rfl, rfl⟩
    · have h : us 24 = at_ g 0 := hd.1 rfl
      go_simp
      exact ⟨_, rfl, rfl, rfl, rfl⟩
    · have h : us 25 = at_ g 0 := hd.1 rfl
      go_simp
      exact ⟨_, rfl, rfl, rfl, rfl⟩
    · have h0 : us 5 = at_ g 96 := hd.1 rfl
      have h1 : us 8 = at_ g 97 := hd.2.1 rfl
      have h2 : us 11 = at_ g 98 := hd.2.2.1 rfl
      have h3 : us 14 = at_ g 99 := hd.2.2.2.1 rfl
      have h4 : us 17 = at_ g 100 := hd.2.2.2.2.1 rfl
      have h5 : us 20 = at_ g 101 := hd.2.2.2.2.2.1 rfl
      have h6 : us 23 = at_ g 102 := hd.2.2.2.2.2.2.1 rfl
      have h7 : us 26 = at_ g 103 := hd.2.2.2.2.2.2.2.1 rfl
      go_simp
      exact ⟨_, rfl, rfl, rfl, rfl⟩
  · intro us w' hw ha
    subst hw
    simp only [fill, List.filterMap_cons, List.filterMap_nil]
    have h : us 27 = .agg (bytesV g) := ha.2.2.2.2.2.2.2.2.2.2.2.2.2.2.2.2.2.2.2.2.2.2.2.2.1
    clear ha
    simp only [bytesV] at h
    rw [HW.out, HB.out]
    go_simp
    go_wp2_with fail
    exact bodyPost_ret (v := .agg (bytesV g)) (by simp [results, Try.results64, go_sem, bytesV]) rfl ⟨rfl, belowD (belowA (Below.refl _ _) _)⟩

end Go.Proofs.Ytkeikkkcmackeaa
