/- ports: the places of what is saved. -/
import Derived.Test.YtniagcbajjmopaaGreatPortsO
import Derived.Test.YtniagcbajjmopaaGreatTail
namespace Go.Proofs.YtniagcbajjmopaaGreat
open Go.RowKit
set_option linter.unusedVariables false
set_option linter.unusedSimpArgs false
set_option maxRecDepth 100000
abbrev at_ (g o : Nat) : Value := .pointer (some ⟨g, o, none⟩)
def plS (l : List Value) (i : Nat) (v : Value) (_ : List Value) (_ : World) : Prop := v = l.getD i undef
def evE (a b : World) : Prop := a = b

def wordsV (g : Nat) : Array Value := #[at_ g 5, at_ g 6, at_ g 7, at_ g 8, at_ g 9, at_ g 13, at_ g 14, at_ g 15, at_ g 16, at_ g 17, at_ g 18]
def wordsO : List Nat := [5, 6, 7, 8, 9, 13, 14, 15, 16, 17, 18]
theorem words_idx (g k : Nat) (hk : k < 11) (w : World) : (Instr.index 92 (.agg (wordsV g)) (.int .i64 k)).run Tryz.prog w = .ok (.pointer (some ⟨g, wordsO.getD k 0, none⟩)) w := by
  rcases (show k = 0 ∨ k = 1 ∨ k = 2 ∨ k = 3 ∨ k = 4 ∨ k = 5 ∨ k = 6 ∨ k = 7 ∨ k = 8 ∨ k = 9 ∨ k = 10 by omega) with rfl | rfl | rfl | rfl | rfl | rfl | rfl | rfl | rfl | rfl | rfl
  all_goals kernel_rfl

set_option maxHeartbeats 16000000 in
theorem wordsP_any (w : World) (g : Nat) : Calls Tryz.prog 69 #[poP g] w (Says w (.agg (wordsV g))) := by
  go_enter Tryz.func69, Tryz.ntmps69
  go_upto_region 1 with (fail)
  obtain ⟨W2, hW⟩ : ∃ W2, W2 = w.alloc (.cells #[.pointer none, .pointer none, .pointer none, .pointer none, .pointer none, .pointer none, .pointer none, .pointer none, .pointer none, .pointer none, .pointer none] 92) := ⟨_, rfl⟩
  obtain ⟨B, hB⟩ : ∃ B, B = w.heap.size := ⟨_, rfl⟩
  rw [← hW, ← hB]
  have HW := Lib.hid hW
  have HB := Lib.hid hB
  clear hW hB
  try simp only [List.append_eq, List.cons_append, List.nil_append]
  refine wp_region_tail 40 _ rfl rfl rfl (by kernel_rfl) (by kernel_rfl) (by kernel_rfl) (C := fun w' => w' = W2.drew) (S := plS [poP g, poP g, at_ g 5, poP g, poP g, at_ g 6, poP g, poP g, at_ g 7, poP g, poP g, at_ g 8, poP g, poP g, at_ g 9, poP g, poP g, at_ g 13, at_ g 13, poP g, poP g, at_ g 13, at_ g 14, poP g, poP g, at_ g 15, at_ g 15, poP g, poP g, at_ g 15, at_ g 16, poP g, poP g, at_ g 17, at_ g 17, poP g, poP g, at_ g 17, at_ g 18, .agg (wordsV g)]) (Ev := evE) (fun _ _ _ _ _ h _ => h) ?_ ?_ ?_
  · rfl
  · simp only [List.take_succ_cons, List.take_zero, stepsOf]
    refine ⟨fun us w' hw hd => stepOf_plain rfl ?_, fun us w' hw hd => stepOf_plain rfl ?_, fun us w' hw hd => stepOf_plain rfl ?_, fun us w' hw hd => stepOf_plain rfl ?_, fun us w' hw hd => stepOf_plain rfl ?_, fun us w' hw hd => stepOf_plain rfl ?_, fun us w' hw hd => stepOf_plain rfl ?_, fun us w' hw hd => stepOf_plain rfl ?_, fun us w' hw hd => stepOf_plain rfl ?_, fun us w' hw hd => stepOf_plain rfl ?_, fun us w' hw hd => stepOf_plain rfl ?_, fun us w' hw hd => stepOf_plain rfl ?_, fun us w' hw hd => stepOf_plain rfl ?_, fun us w' hw hd => stepOf_plain rfl ?_, fun us w' hw hd => stepOf_plain rfl ?_, fun us w' hw hd => stepOf_plain rfl ?_, fun us w' hw hd => stepOf_plain rfl ?_, fun us w' hw hd => stepOf_plain rfl ?_, fun us w' hw hd => stepOf_plain rfl ?_, fun us w' hw hd => stepOf_plain rfl ?_, fun us w' hw hd => stepOf_plain rfl ?_, fun us w' hw hd => stepOf_plain rfl ?_, fun us w' hw hd => stepOf_plain rfl ?_, fun us w' hw hd => stepOf_plain rfl ?_, fun us w' hw hd => stepOf_plain rfl ?_, fun us w' hw hd => stepOf_plain rfl ?_, fun us w' hw hd => stepOf_plain rfl ?_, fun us w' hw hd => stepOf_plain rfl ?_, fun us w' hw hd => stepOf_plain rfl ?_, fun us w' hw hd => stepOf_plain rfl ?_, fun us w' hw hd => stepOf_plain rfl ?_, fun us w' hw hd => stepOf_plain rfl ?_, fun us w' hw hd => stepOf_plain rfl ?_, fun us w' hw hd => stepOf_plain rfl ?_, fun us w' hw hd => stepOf_plain rfl ?_, fun us w' hw hd => stepOf_plain rfl ?_, fun us w' hw hd => stepOf_plain rfl ?_, fun us w' hw hd => stepOf_plain rfl ?_, fun us w' hw hd => stepOf_plain rfl ?_, fun us w' hw hd => stepOf_plain rfl ?_, trivial⟩
    all_goals simp only [fill, List.filterMap_cons, List.filterMap_nil]
    all_goals subst hw
    · go_simp
      exact ⟨_, rfl, rfl, rfl, rfl⟩
    · have h : us 3 = poP g := hd.1 rfl
      go_simp
      exact ⟨_, rfl, rfl, rfl, rfl⟩
    · have h : us 4 = poP g := hd.1 rfl
      go_simp
      exact ⟨_, rfl, rfl, rfl, rfl⟩
    · go_simp
      exact ⟨_, rfl, rfl, rfl, rfl⟩
    · have h : us 6 = poP g := hd.1 rfl
      go_simp
      exact ⟨_, rfl, rfl, rfl, rfl⟩
    · have h : us 7 = poP g := hd.1 rfl
      go_simp
      exact ⟨_, rfl, rfl, rfl, rfl⟩
    · go_simp
      exact ⟨_, rfl, rfl, rfl, rfl⟩
    · have h : us 9 = poP g := hd.1 rfl
      go_simp
      exact ⟨_, rfl, rfl, rfl, rfl⟩
    · have h : us 10 = poP g := hd.1 rfl
      go_simp
      exact ⟨_, rfl, rfl, rfl, rfl⟩
    · go_simp
      exact ⟨_, rfl, rfl, rfl, rfl⟩
    · have h : us 12 = poP g := hd.1 rfl
      go_simp
      exact ⟨_, rfl, rfl, rfl, rfl⟩
    · have h : us 13 = poP g := hd.1 rfl
      go_simp
      exact ⟨_, rfl, rfl, rfl, rfl⟩
    · go_simp
      exact ⟨_, rfl, rfl, rfl, rfl⟩
    · have h : us 15 = poP g := hd.1 rfl
      go_simp
      exact ⟨_, rfl, rfl, rfl, rfl⟩
    · have h : us 16 = poP g := hd.1 rfl
      go_simp
      exact ⟨_, rfl, rfl, rfl, rfl⟩
    · go_simp
      exact ⟨_, rfl, rfl, rfl, rfl⟩
    · have h : us 18 = poP g := hd.1 rfl
      go_simp
      exact ⟨_, rfl, rfl, rfl, rfl⟩
    · have h : us 19 = poP g := hd.1 rfl
      go_simp
      exact ⟨_, rfl, rfl, rfl, rfl⟩
    · have h : us 20 = at_ g 13 := hd.1 rfl
      go_simp
      exact ⟨_, rfl, rfl, rfl, rfl⟩
    · go_simp
      exact ⟨_, rfl, rfl, rfl, rfl⟩
    · have h : us 22 = poP g := hd.1 rfl
      go_simp
      exact ⟨_, rfl, rfl, rfl, rfl⟩
    · have h : us 23 = poP g := hd.1 rfl
      go_simp
      exact ⟨_, rfl, rfl, rfl, rfl⟩
    · have h : us 24 = at_ g 13 := hd.1 rfl
      go_simp
      exact ⟨_, rfl, rfl, rfl, rfl⟩
    · go_simp
      exact ⟨_, rfl, rfl, rfl, rfl⟩
    · have h : us 26 = poP g := hd.1 rfl
      go_simp
      exact ⟨_, rfl, rfl, rfl, rfl⟩
    · have h : us 27 = poP g := hd.1 rfl
      go_simp
      exact ⟨_, rfl, rfl, rfl, rfl⟩
    · have h : us 28 = at_ g 15 := hd.1 rfl
      go_simp
      exact ⟨_, rfl, rfl, rfl, rfl⟩
    · go_simp
      exact ⟨_, rfl, rfl, rfl, rfl⟩
    · have h : us 30 = poP g := hd.1 rfl
      go_simp
      exact ⟨_, rfl, rfl, rfl, rfl⟩
    · have h : us 31 = poP g := hd.1 rfl
      go_simp
      exact ⟨_, rfl, rfl, rfl, rfl⟩
    · have h : us 32 = at_ g 15 := hd.1 rfl
      go_simp
      exact ⟨_, rfl, rfl, rfl, rfl⟩
    · go_simp
      exact ⟨_, rfl, rfl, rfl, rfl⟩
    · have h : us 34 = poP g := hd.1 rfl
      go_simp
      exact ⟨_, rfl, rfl, rfl, rfl⟩
    · have h : us 35 = poP g := hd.1 rfl
      go_simp
      exact ⟨_, rfl, rfl, rfl, rfl⟩
    · have h : us 36 = at_ g 17 := hd.1 rfl
      go_simp
      exact ⟨_, rfl, rfl, rfl, rfl⟩
    · go_simp
      exact ⟨_, rfl, rfl, rfl, rfl⟩
    · have h : us 38 = poP g := hd.1 rfl
      go_simp
      exact ⟨_, rfl, rfl, rfl, rfl⟩
    · have h : us 39 = poP g := hd.1 rfl
      go_simp
      exact ⟨_, rfl, rfl, rfl, rfl⟩
    · have h : us 40 = at_ g 17 := hd.1 rfl
      go_simp
      exact ⟨_, rfl, rfl, rfl, rfl⟩
    · have h0 : us 5 = at_ g 5 := hd.1 rfl
      have h1 : us 8 = at_ g 6 := hd.2.1 rfl
      have h2 : us 11 = at_ g 7 := hd.2.2.1 rfl
      have h3 : us 14 = at_ g 8 := hd.2.2.2.1 rfl
      have h4 : us 17 = at_ g 9 := hd.2.2.2.2.1 rfl
      have h5 : us 21 = at_ g 13 := hd.2.2.2.2.2.1 rfl
      have h6 : us 25 = at_ g 14 := hd.2.2.2.2.2.2.1 rfl
      have h7 : us 29 = at_ g 15 := hd.2.2.2.2.2.2.2.1 rfl
      have h8 : us 33 = at_ g 16 := hd.2.2.2.2.2.2.2.2.1 rfl
      have h9 : us 37 = at_ g 17 := hd.2.2.2.2.2.2.2.2.2.1 rfl
      have h10 : us 41 = at_ g 18 := hd.2.2.2.2.2.2.2.2.2.2.1 rfl
      go_simp
      exact ⟨_, rfl, rfl, rfl, rfl⟩
  · intro us w' hw ha
    subst hw
    simp only [fill, List.filterMap_cons, List.filterMap_nil]
    have h : us 42 = .agg (wordsV g) := ha.2.2.2.2.2.2.2.2.2.2.2.2.2.2.2.2.2.2.2.2.2.2.2.2.2.2.2.2.2.2.2.2.2.2.2.2.2.2.2.1
    clear ha
    simp only [wordsV] at h
    rw [HW.out, HB.out]
    go_simp
    go_wp2_with fail
    exact bodyPost_ret (v := .agg (wordsV g)) (by simp [results, Tryz.results69, go_sem, wordsV]) rfl ⟨rfl, belowD (belowA (Below.refl _ _) _)⟩

def bytesV (g : Nat) : Array Value := #[at_ g 2, at_ g 3, at_ g 4]
def bytesO : List Nat := [2, 3, 4]
theorem bytes_idx (g k : Nat) (hk : k < 3) (w : World) : (Instr.index 95 (.agg (bytesV g)) (.int .i64 k)).run Tryz.prog w = .ok (.pointer (some ⟨g, bytesO.getD k 0, none⟩)) w := by
  rcases (show k = 0 ∨ k = 1 ∨ k = 2 by omega) with rfl | rfl | rfl
  all_goals kernel_rfl

set_option maxHeartbeats 16000000 in
theorem bytesP_any (w : World) (g : Nat) : Calls Tryz.prog 70 #[poP g] w (Says w (.agg (bytesV g))) := by
  go_enter Tryz.func70, Tryz.ntmps70
  go_upto_region 1 with (fail)
  obtain ⟨W2, hW⟩ : ∃ W2, W2 = w.alloc (.cells #[.pointer none, .pointer none, .pointer none] 95) := ⟨_, rfl⟩
  obtain ⟨B, hB⟩ : ∃ B, B = w.heap.size := ⟨_, rfl⟩
  rw [← hW, ← hB]
  have HW := Lib.hid hW
  have HB := Lib.hid hB
  clear hW hB
  try simp only [List.append_eq, List.cons_append, List.nil_append]
  refine wp_region_tail 10 _ rfl rfl rfl (by kernel_rfl) (by kernel_rfl) (by kernel_rfl) (C := fun w' => w' = W2.drew) (S := plS [poP g, poP g, at_ g 2, poP g, poP g, at_ g 3, poP g, poP g, at_ g 4, .agg (bytesV g)]) (Ev := evE) (fun _ _ _ _ _ h _ => h) ?_ ?_ ?_
  · rfl
  · simp only [List.take_succ_cons, List.take_zero, stepsOf]
    refine ⟨fun us w' hw hd => stepOf_plain rfl ?_, fun us w' hw hd => stepOf_plain rfl ?_, fun us w' hw hd => stepOf_plain rfl ?_, fun us w' hw hd => stepOf_plain rfl ?_, fun us w' hw hd => stepOf_plain rfl ?_, fun us w' hw hd => stepOf_plain rfl ?_, fun us w' hw hd => stepOf_plain rfl ?_, fun us w' hw hd => stepOf_plain rfl ?_, fun us w' hw hd => stepOf_plain rfl ?_, fun us w' hw hd => stepOf_plain rfl ?_, trivial⟩
    all_goals simp only [fill, List.filterMap_cons, List.filterMap_nil]
    all_goals subst hw
    · go_simp
      exact ⟨_, rfl, rfl, rfl, rfl⟩
    · have h : us 3 = poP g := hd.1 rfl
      go_simp
      exact ⟨_, rfl, rfl, rfl, rfl⟩
    · have h : us 4 = poP g := hd.1 rfl
      go_simp
      exact ⟨_, rfl, rfl, rfl, rfl⟩
    · go_simp
      exact ⟨_, rfl, rfl, rfl, rfl⟩
    · have h : us 6 = poP g := hd.1 rfl
      go_simp
      exact ⟨_, rfl, rfl, rfl, rfl⟩
    · have h : us 7 = poP g := hd.1 rfl
      go_simp
      exact ⟨_, rfl, rfl, rfl, rfl⟩
    · go_simp
      exact ⟨_, rfl, rfl, rfl, rfl⟩
    · have h : us 9 = poP g := hd.1 rfl
      go_simp
      exact ⟨_, rfl, rfl, rfl, rfl⟩
    · have h : us 10 = poP g := hd.1 rfl
      go_simp
      exact ⟨_, rfl, rfl, rfl, rfl⟩
    · have h0 : us 5 = at_ g 2 := hd.1 rfl
      have h1 : us 8 = at_ g 3 := hd.2.1 rfl
      have h2 : us 11 = at_ g 4 := hd.2.2.1 rfl
      go_simp
      exact ⟨_, rfl, rfl, rfl, rfl⟩
  · intro us w' hw ha
    subst hw
    simp only [fill, List.filterMap_cons, List.filterMap_nil]
    have h : us 12 = .agg (bytesV g) := ha.2.2.2.2.2.2.2.2.2.1
    clear ha
    simp only [bytesV] at h
    rw [HW.out, HB.out]
    go_simp
    go_wp2_with fail
    exact bodyPost_ret (v := .agg (bytesV g)) (by simp [results, Tryz.results70, go_sem, bytesV]) rfl ⟨rfl, belowD (belowA (Below.refl _ _) _)⟩

def flagsV (g : Nat) : Array Value := #[at_ g 10, at_ g 11, at_ g 12, at_ g 19, at_ g 20, at_ g 21]
def flagsO : List Nat := [10, 11, 12, 19, 20, 21]
theorem flags_idx (g k : Nat) (hk : k < 6) (w : World) : (Instr.index 97 (.agg (flagsV g)) (.int .i64 k)).run Tryz.prog w = .ok (.pointer (some ⟨g, flagsO.getD k 0, none⟩)) w := by
  rcases (show k = 0 ∨ k = 1 ∨ k = 2 ∨ k = 3 ∨ k = 4 ∨ k = 5 by omega) with rfl | rfl | rfl | rfl | rfl | rfl
  all_goals kernel_rfl

set_option maxHeartbeats 16000000 in
theorem flagsP_any (w : World) (g : Nat) : Calls Tryz.prog 71 #[poP g] w (Says w (.agg (flagsV g))) := by
  go_enter Tryz.func71, Tryz.ntmps71
  go_upto_region 1 with (fail)
  obtain ⟨W2, hW⟩ : ∃ W2, W2 = w.alloc (.cells #[.pointer none, .pointer none, .pointer none, .pointer none, .pointer none, .pointer none] 97) := ⟨_, rfl⟩
  obtain ⟨B, hB⟩ : ∃ B, B = w.heap.size := ⟨_, rfl⟩
  rw [← hW, ← hB]
  have HW := Lib.hid hW
  have HB := Lib.hid hB
  clear hW hB
  try simp only [List.append_eq, List.cons_append, List.nil_append]
  refine wp_region_tail 19 _ rfl rfl rfl (by kernel_rfl) (by kernel_rfl) (by kernel_rfl) (C := fun w' => w' = W2.drew) (S := plS [poP g, poP g, at_ g 10, poP g, poP g, at_ g 11, poP g, poP g, at_ g 12, poP g, poP g, at_ g 19, poP g, poP g, at_ g 20, poP g, poP g, at_ g 21, .agg (flagsV g)]) (Ev := evE) (fun _ _ _ _ _ h _ => h) ?_ ?_ ?_
  · rfl
  · simp only [List.take_succ_cons, List.take_zero, stepsOf]
    refine ⟨fun us w' hw hd => stepOf_plain rfl ?_, fun us w' hw hd => stepOf_plain rfl ?_, fun us w' hw hd => stepOf_plain rfl ?_, fun us w' hw hd => stepOf_plain rfl ?_, fun us w' hw hd => stepOf_plain rfl ?_, fun us w' hw hd => stepOf_plain rfl ?_, fun us w' hw hd => stepOf_plain rfl ?_, fun us w' hw hd => stepOf_plain rfl ?_, fun us w' hw hd => stepOf_plain rfl ?_, fun us w' hw hd => stepOf_plain rfl ?_, fun us w' hw hd => stepOf_plain rfl ?_, fun us w' hw hd => stepOf_plain rfl ?_, fun us w' hw hd => stepOf_plain rfl ?_, fun us w' hw hd => stepOf_plain rfl ?_, fun us w' hw hd => stepOf_plain rfl ?_, fun us w' hw hd => stepOf_plain rfl ?_, fun us w' hw hd => stepOf_plain rfl ?_, fun us w' hw hd => stepOf_plain rfl ?_, fun us w' hw hd => stepOf_plain rfl ?_, trivial⟩
    all_goals simp only [fill, List.filterMap_cons, List.filterMap_nil]
    all_goals subst hw
    · go_simp
      exact ⟨_, rfl, rfl, rfl, rfl⟩
    · have h : us 3 = poP g := hd.1 rfl
      go_simp
      exact ⟨_, rfl, rfl, rfl, rfl⟩
    · have h : us 4 = poP g := hd.1 rfl
      go_simp
      exact ⟨_, rfl, rfl, rfl, rfl⟩
    · go_simp
      exact ⟨_, rfl, rfl, rfl, rfl⟩
    · have h : us 6 = poP g := hd.1 rfl
      go_simp
      exact ⟨_, rfl, rfl, rfl, rfl⟩
    · have h : us 7 = poP g := hd.1 rfl
      go_simp
      exact ⟨_, rfl, rfl, rfl, rfl⟩
    · go_simp
      exact ⟨_, rfl, rfl, rfl, rfl⟩
    · have h : us 9 = poP g := hd.1 rfl
      go_simp
      exact ⟨_, rfl, rfl, rfl, rfl⟩
    · have h : us 10 = poP g := hd.1 rfl
      go_simp
      exact ⟨_, rfl, rfl, rfl, rfl⟩
    · go_simp
      exact ⟨_, rfl, rfl, rfl, rfl⟩
    · have h : us 12 = poP g := hd.1 rfl
      go_simp
      exact ⟨_, rfl, rfl, rfl, rfl⟩
    · have h : us 13 = poP g := hd.1 rfl
      go_simp
      exact ⟨_, rfl, rfl, rfl, rfl⟩
    · go_simp
      exact ⟨_, rfl, rfl, rfl, rfl⟩
    · have h : us 15 = poP g := hd.1 rfl
      go_simp
      exact ⟨_, rfl, rfl, rfl, rfl⟩
    · have h : us 16 = poP g := hd.1 rfl
      go_simp
      exact ⟨_, rfl, rfl, rfl, rfl⟩
    · go_simp
      exact ⟨_, rfl, rfl, rfl, rfl⟩
    · have h : us 18 = poP g := hd.1 rfl
      go_simp
      exact ⟨_, rfl, rfl, rfl, rfl⟩
    · have h : us 19 = poP g := hd.1 rfl
      go_simp
      exact ⟨_, rfl, rfl, rfl, rfl⟩
    · have h0 : us 5 = at_ g 10 := hd.1 rfl
      have h1 : us 8 = at_ g 11 := hd.2.1 rfl
      have h2 : us 11 = at_ g 12 := hd.2.2.1 rfl
      have h3 : us 14 = at_ g 19 := hd.2.2.2.1 rfl
      have h4 : us 17 = at_ g 20 := hd.2.2.2.2.1 rfl
      have h5 : us 20 = at_ g 21 := hd.2.2.2.2.2.1 rfl
      go_simp
      exact ⟨_, rfl, rfl, rfl, rfl⟩
  · intro us w' hw ha
    subst hw
    simp only [fill, List.filterMap_cons, List.filterMap_nil]
    have h : us 21 = .agg (flagsV g) := ha.2.2.2.2.2.2.2.2.2.2.2.2.2.2.2.2.2.2.1
    clear ha
    simp only [flagsV] at h
    rw [HW.out, HB.out]
    go_simp
    go_wp2_with fail
    exact bodyPost_ret (v := .agg (flagsV g)) (by simp [results, Tryz.results71, go_sem, flagsV]) rfl ⟨rfl, belowD (belowA (Below.refl _ _) _)⟩

end Go.Proofs.YtniagcbajjmopaaGreat
