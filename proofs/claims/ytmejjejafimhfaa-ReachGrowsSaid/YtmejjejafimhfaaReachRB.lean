/- Reach: the modes B. -/
import Derived.Test.YtmejjejafimhfaaReachR
import Derived.Deep.RegionHeld3
namespace Go.Proofs.Ytmejjejafimhfaa
open Go.RowKit
set_option linter.unusedVariables false
set_option linter.unusedSimpArgs false
set_option maxRecDepth 100000

set_option maxHeartbeats 4000000 in
theorem reach_8 (c u wd : Int) (nm : ByteArray) (g : Nat) (s : St) (w : World) (h : In w g s) (u0 : 0 ≤ u) :
    Calls Try.prog 16 #[.pointer (some ⟨g, 0, none⟩), codeV c nm 8 u wd] w (Ret w g (placeV (mInd s).1 false) (mInd s).2) := by
  have R := Lib.hid (laid3 w g h c 8 u wd nm)
  have lg := h.lt
  clear h
  go_enter Try.func16, Try.ntmps16
  go_wp2_with fail
  obtain ⟨W1, hW⟩ : ∃ W1, W1 = (w.alloc (.cells #[.int .u8 c, .string nm, .int .u8 8, .int .u8 u, .int .u8 wd] 23)).alloc (.cells #[.int .u32 0, .bool false] 31) := ⟨_, rfl⟩
  rw [← hW] at R ⊢
  obtain ⟨B, hB⟩ : ∃ B, B = w.heap.size := ⟨_, rfl⟩
  rw [← hB] at R ⊢
  clear hW hB
  refine (offset_m g s _ R.out.i).mono ?_
  rintro e w1 ⟨⟨rfl, k1, u1⟩, o0, o1⟩
  obtain ⟨⟨o, s1⟩, hq⟩ : ∃ q, mOffset s = q := ⟨_, rfl⟩
  rw [hq] at k1 o0 o1 ⊢
  simp only at k1 o0 o1 ⊢
  have R1 := Lib.hid (R.out.step k1 u1)
  have HQ := Lib.hid hq
  clear k1 u1 R hq
  go_wp2_with fail
  refine (pointer_m o g s1 _ R1.out.i o0 (by omega)).mono ?_
  rintro e w2 ⟨⟨rfl, k2, u2⟩, p0, p1⟩
  obtain ⟨⟨p, s2⟩, ht⟩ : ∃ q, mPointer o s1 = q := ⟨_, rfl⟩
  rw [ht] at k2 p0 p1 ⊢
  simp only at k2 p0 p1 ⊢
  have R2 := Lib.hid (R1.out.step k2 u2)
  have HT := Lib.hid ht
  clear k2 u2 R1 ht
  go_wp2_with fail
  refine (bank_m p g s2 _ R2.out.i p0 (by omega)).mono ?_
  rintro e w3 ⟨⟨rfl, rfl⟩, q0, q1⟩
  have hm : mInd s = (bankOf s2.r p, s2) := by simp only [mInd, HQ.out, HT.out]
  obtain ⟨z0, z1, f0, f1⟩ := R2.out.facts
  clear HQ HT
  go_wp2_with fail
  refine bodyPost_ret (v := placeV (bankOf s2.r p) false) (by simp [results, Try.results16, go_sem, z0, z1]) rfl ?_
  rw [hm]
  exact ⟨rfl, (R2.out.done _ _).1, (R2.out.done _ _).2⟩

set_option maxHeartbeats 4000000 in
theorem reach_10 (c u wd : Int) (nm : ByteArray) (g : Nat) (s : St) (w : World) (h : In w g s) (u0 : 0 ≤ u) :
    Calls Try.prog 16 #[.pointer (some ⟨g, 0, none⟩), codeV c nm 10 u wd] w (Ret w g (placeV (mIndX s).1 false) (mIndX s).2) := by
  have R := Lib.hid (laid3 w g h c 10 u wd nm)
  have lg := h.lt
  clear h
  go_enter Try.func16, Try.ntmps16
  go_wp2_with fail
  obtain ⟨W1, hW⟩ : ∃ W1, W1 = (w.alloc (.cells #[.int .u8 c, .string nm, .int .u8 10, .int .u8 u, .int .u8 wd] 23)).alloc (.cells #[.int .u32 0, .bool false] 31) := ⟨_, rfl⟩
  rw [← hW] at R ⊢
  obtain ⟨B, hB⟩ : ∃ B, B = w.heap.size := ⟨_, rfl⟩
  rw [← hB] at R ⊢
  clear hW hB
  refine (offset_m g s _ R.out.i).mono ?_
  rintro e w1 ⟨⟨rfl, k1, u1⟩, o0, o1⟩
  obtain ⟨⟨o, s1⟩, hq⟩ : ∃ q, mOffset s = q := ⟨_, rfl⟩
  rw [hq] at k1 o0 o1 ⊢
  simp only at k1 o0 o1 ⊢
  have R1 := Lib.hid (R.out.step k1 u1)
  have HQ := Lib.hid hq
  clear k1 u1 R hq
  go_wp2_with fail
  refine (idle_m g s1 _ R1.out.i).mono ?_
  rintro e w2 ⟨rfl, k2, u2⟩
  obtain ⟨_, cx, _⟩ := k2.regs
  obtain ⟨_, _, x0, x1, _⟩ := k2.ok
  rw [show (mIdle s1).r.x = s1.r.x from rfl] at cx x0 x1
  have R2 := Lib.hid (R1.out.step k2 u2)
  have ex : IntKind.u32.wrap s1.r.x = s1.r.x := by rw [IntKind.wrap_u32]; omega
  have ey : IntKind.u32.wrap (o + s1.r.x) = o + s1.r.x := by rw [IntKind.wrap_u32]; omega
  clear k2 u2 R1
  go_wp2_with fail
  refine (pointer_m (o + s1.r.x) g (mIdle s1) _ R2.out.i (by omega) (by omega)).mono ?_
  rintro e w3 ⟨⟨rfl, k3, u3⟩, p0, p1⟩
  obtain ⟨⟨p, s2⟩, ht⟩ : ∃ q, mPointer (o + s1.r.x) (mIdle s1) = q := ⟨_, rfl⟩
  rw [ht] at k3 p0 p1 ⊢
  simp only at k3 p0 p1 ⊢
  have R3 := Lib.hid (R2.out.step k3 u3)
  have HT := Lib.hid ht
  clear k3 u3 R2 ht
  go_wp2_with fail
  refine (bank_m p g s2 _ R3.out.i p0 (by omega)).mono ?_
  rintro e w4 ⟨⟨rfl, rfl⟩, q0, q1⟩
  have hm : mIndX s = (bankOf s2.r p, s2) := by simp only [mIndX, HQ.out, HT.out]
  obtain ⟨z0, z1, f0, f1⟩ := R3.out.facts
  clear HQ HT
  go_wp2_with fail
  refine bodyPost_ret (v := placeV (bankOf s2.r p) false) (by simp [results, Try.results16, go_sem, z0, z1]) rfl ?_
  rw [hm]
  exact ⟨rfl, (R3.out.done _ _).1, (R3.out.done _ _).2⟩
end Go.Proofs.Ytmejjejafimhfaa
