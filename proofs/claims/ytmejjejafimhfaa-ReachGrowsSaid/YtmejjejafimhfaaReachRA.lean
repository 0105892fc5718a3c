/- Reach: the modes A. -/
import Derived.Test.YtmejjejafimhfaaReachR
import Derived.Deep.RegionHeld3
namespace Go.Proofs.Ytmejjejafimhfaa
open Go.RowKit
set_option linter.unusedVariables false
set_option linter.unusedSimpArgs false
set_option maxRecDepth 100000

set_option maxHeartbeats 4000000 in
theorem reach_5 (c u wd : Int) (nm : ByteArray) (g : Nat) (s : St) (w : World) (h : In w g s) (u0 : 0 ≤ u) :
    Calls Try.prog 16 #[.pointer (some ⟨g, 0, none⟩), codeV c nm 5 u wd] w (Ret w g (placeV (mDirect 5 s).1 true) (mDirect 5 s).2) := by
  have R := Lib.hid (laid3 w g h c 5 u wd nm)
  have lg := h.lt
  clear h
  go_enter Try.func16, Try.ntmps16
  go_wp2_with fail
  obtain ⟨W1, hW⟩ : ∃ W1, W1 = (w.alloc (.cells #[.int .u8 c, .string nm, .int .u8 5, .int .u8 u, .int .u8 wd] 23)).alloc (.cells #[.int .u32 0, .bool false] 31) := ⟨_, rfl⟩
  rw [← hW] at R ⊢
  obtain ⟨B, hB⟩ : ∃ B, B = w.heap.size := ⟨_, rfl⟩
  rw [← hB] at R ⊢
  clear hW hB
  refine (direct_m c 5 u wd nm g s _ R.out.i).mono ?_
  rintro e w1 ⟨rfl, k1, u1⟩
  have r1 := R.out.step k1 u1
  have R1 := Lib.hid r1
  obtain ⟨z0, z1, f0, f1⟩ := r1.facts
  clear r1 k1 u1 R
  go_wp2_with fail
  refine bodyPost_ret (v := placeV (mDirect 5 s).1 true) (by simp [results, Try.results16, go_sem, z0, z1]) rfl ⟨rfl, ?_, ?_⟩
  · exact (R1.out.done _ _).1
  · exact (R1.out.done _ _).2

set_option maxHeartbeats 4000000 in
theorem reach_6 (c u wd : Int) (nm : ByteArray) (g : Nat) (s : St) (w : World) (h : In w g s) (u0 : 0 ≤ u) :
    Calls Try.prog 16 #[.pointer (some ⟨g, 0, none⟩), codeV c nm 6 u wd] w (Ret w g (placeV (mDirect 6 s).1 true) (mDirect 6 s).2) := by
  have R := Lib.hid (laid3 w g h c 6 u wd nm)
  have lg := h.lt
  clear h
  go_enter Try.func16, Try.ntmps16
  go_wp2_with fail
  obtain ⟨W1, hW⟩ : ∃ W1, W1 = (w.alloc (.cells #[.int .u8 c, .string nm, .int .u8 6, .int .u8 u, .int .u8 wd] 23)).alloc (.cells #[.int .u32 0, .bool false] 31) := ⟨_, rfl⟩
  rw [← hW] at R ⊢
  obtain ⟨B, hB⟩ : ∃ B, B = w.heap.size := ⟨_, rfl⟩
  rw [← hB] at R ⊢
  clear hW hB
  refine (direct_m c 6 u wd nm g s _ R.out.i).mono ?_
  rintro e w1 ⟨rfl, k1, u1⟩
  have r1 := R.out.step k1 u1
  have R1 := Lib.hid r1
  obtain ⟨z0, z1, f0, f1⟩ := r1.facts
  clear r1 k1 u1 R
  go_wp2_with fail
  refine bodyPost_ret (v := placeV (mDirect 6 s).1 true) (by simp [results, Try.results16, go_sem, z0, z1]) rfl ⟨rfl, ?_, ?_⟩
  · exact (R1.out.done _ _).1
  · exact (R1.out.done _ _).2

set_option maxHeartbeats 4000000 in
theorem reach_7 (c u wd : Int) (nm : ByteArray) (g : Nat) (s : St) (w : World) (h : In w g s) (u0 : 0 ≤ u) :
    Calls Try.prog 16 #[.pointer (some ⟨g, 0, none⟩), codeV c nm 7 u wd] w (Ret w g (placeV (mDirect 7 s).1 true) (mDirect 7 s).2) := by
  have R := Lib.hid (laid3 w g h c 7 u wd nm)
  have lg := h.lt
  clear h
  go_enter Try.func16, Try.ntmps16
  go_wp2_with fail
  obtain ⟨W1, hW⟩ : ∃ W1, W1 = (w.alloc (.cells #[.int .u8 c, .string nm, .int .u8 7, .int .u8 u, .int .u8 wd] 23)).alloc (.cells #[.int .u32 0, .bool false] 31) := ⟨_, rfl⟩
  rw [← hW] at R ⊢
  obtain ⟨B, hB⟩ : ∃ B, B = w.heap.size := ⟨_, rfl⟩
  rw [← hB] at R ⊢
  clear hW hB
  refine (direct_m c 7 u wd nm g s _ R.out.i).mono ?_
  rintro e w1 ⟨rfl, k1, u1⟩
  have r1 := R.out.step k1 u1
  have R1 := Lib.hid r1
  obtain ⟨z0, z1, f0, f1⟩ := r1.facts
  clear r1 k1 u1 R
  go_wp2_with fail
  refine bodyPost_ret (v := placeV (mDirect 7 s).1 true) (by simp [results, Try.results16, go_sem, z0, z1]) rfl ⟨rfl, ?_, ?_⟩
  · exact (R1.out.done _ _).1
  · exact (R1.out.done _ _).2

set_option maxHeartbeats 4000000 in
theorem reach_21 (c u wd : Int) (nm : ByteArray) (g : Nat) (s : St) (w : World) (h : In w g s) (u0 : 0 ≤ u) :
    Calls Try.prog 16 #[.pointer (some ⟨g, 0, none⟩), codeV c nm 21 u wd] w (Ret w g (placeV (mStack 21 s).1.1 (mStack 21 s).1.2) (mStack 21 s).2) := by
  have R := Lib.hid (laid3 w g h c 21 u wd nm)
  have lg := h.lt
  clear h
  go_enter Try.func16, Try.ntmps16
  go_wp2_with fail
  obtain ⟨W1, hW⟩ : ∃ W1, W1 = (w.alloc (.cells #[.int .u8 c, .string nm, .int .u8 21, .int .u8 u, .int .u8 wd] 23)).alloc (.cells #[.int .u32 0, .bool false] 31) := ⟨_, rfl⟩
  rw [← hW] at R ⊢
  obtain ⟨B, hB⟩ : ∃ B, B = w.heap.size := ⟨_, rfl⟩
  rw [← hB] at R ⊢
  clear hW hB
  refine (stack_m c 21 u wd nm g s _ R.out.i).mono ?_
  rintro e w1 ⟨rfl, k1, u1⟩
  have r1 := R.out.step k1 u1
  have R1 := Lib.hid r1
  obtain ⟨z0, z1, f0, f1⟩ := r1.facts
  clear r1 k1 u1 R
  go_wp2_with fail
  refine bodyPost_ret (v := placeV (mStack 21 s).1.1 (mStack 21 s).1.2) (by simp [results, Try.results16, go_sem, z0, z1]) rfl ⟨rfl, ?_, ?_⟩
  · exact (R1.out.done _ _).1
  · exact (R1.out.done _ _).2

set_option maxHeartbeats 4000000 in
theorem reach_22 (c u wd : Int) (nm : ByteArray) (g : Nat) (s : St) (w : World) (h : In w g s) (u0 : 0 ≤ u) :
    Calls Try.prog 16 #[.pointer (some ⟨g, 0, none⟩), codeV c nm 22 u wd] w (Ret w g (placeV (mStack 22 s).1.1 (mStack 22 s).1.2) (mStack 22 s).2) := by
  have R := Lib.hid (laid3 w g h c 22 u wd nm)
  have lg := h.lt
  clear h
  go_enter Try.func16, Try.ntmps16
  go_wp2_with fail
  obtain ⟨W1, hW⟩ : ∃ W1, W1 = (w.alloc (.cells #[.int .u8 c, .string nm, .int .u8 22, .int .u8 u, .int .u8 wd] 23)).alloc (.cells #[.int .u32 0, .bool false] 31) := ⟨_, rfl⟩
  rw [← hW] at R ⊢
  obtain ⟨B, hB⟩ : ∃ B, B = w.heap.size := ⟨_, rfl⟩
  rw [← hB] at R ⊢
  clear hW hB
  refine (stack_m c 22 u wd nm g s _ R.out.i).mono ?_
  rintro e w1 ⟨rfl, k1, u1⟩
  have r1 := R.out.step k1 u1
  have R1 := Lib.hid r1
  obtain ⟨z0, z1, f0, f1⟩ := r1.facts
  clear r1 k1 u1 R
  go_wp2_with fail
  refine bodyPost_ret (v := placeV (mStack 22 s).1.1 (mStack 22 s).1.2) (by simp [results, Try.results16, go_sem, z0, z1]) rfl ⟨rfl, ?_, ?_⟩
  · exact (R1.out.done _ _).1
  · exact (R1.out.done _ _).2
end Go.Proofs.Ytmejjejafimhfaa
