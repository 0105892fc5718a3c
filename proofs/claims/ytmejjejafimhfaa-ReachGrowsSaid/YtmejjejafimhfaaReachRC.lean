/- Reach: the modes C. -/
import Derived.Test.YtmejjejafimhfaaReachR
import Derived.Deep.RegionHeld3
namespace Go.Proofs.Ytmejjejafimhfaa
open Go.RowKit
set_option linter.unusedVariables false
set_option linter.unusedSimpArgs false
set_option maxRecDepth 100000

set_option maxHeartbeats 4000000 in
theorem reach_13 (c u wd : Int) (nm : ByteArray) (g : Nat) (s : St) (w : World) (h : In w g s) (u0 : 0 ≤ u) :
    Calls Try.prog 16 #[.pointer (some ⟨g, 0, none⟩), codeV c nm 13 u wd] w (Ret w g (placeV (mAbs s).1 false) (mAbs s).2) := by
  have R := Lib.hid (laid3 w g h c 13 u wd nm)
  have lg := h.lt
  clear h
  go_enter Try.func16, Try.ntmps16
  go_wp2_with fail
  obtain ⟨W1, hW⟩ : ∃ W1, W1 = (w.alloc (.cells #[.int .u8 c, .string nm, .int .u8 13, .int .u8 u, .int .u8 wd] 23)).alloc (.cells #[.int .u32 0, .bool false] 31) := ⟨_, rfl⟩
  rw [← hW] at R ⊢
  obtain ⟨B, hB⟩ : ∃ B, B = w.heap.size := ⟨_, rfl⟩
  rw [← hB] at R ⊢
  clear hW hB
  refine (fetch16_m g s _ R.out.i).mono ?_
  rintro e w1 ⟨⟨rfl, k1, u1⟩, o0, o1⟩
  obtain ⟨⟨o, s1⟩, hq⟩ : ∃ q, mFetch16 s = q := ⟨_, rfl⟩
  rw [hq] at k1 o0 o1 ⊢
  simp only at k1 o0 o1 ⊢
  have R1 := Lib.hid (R.out.step k1 u1)
  have HQ := Lib.hid hq
  have eo : IntKind.u32.wrap o = o := by rw [IntKind.wrap_u32]; omega
  clear k1 u1 R hq
  go_wp2_with fail
  refine (bank_m o g s1 _ R1.out.i o0 (by omega)).mono ?_
  rintro e w2 ⟨⟨rfl, rfl⟩, q0, q1⟩
  have hm : mAbs s = (bankOf s1.r o, s1) := by simp only [mAbs, HQ.out]
  obtain ⟨z0, z1, f0, f1⟩ := R1.out.facts
  clear HQ
  go_wp2_with fail
  refine bodyPost_ret (v := placeV (bankOf s1.r o) false) (by simp [results, Try.results16, go_sem, z0, z1]) rfl ?_
  rw [hm]
  exact ⟨rfl, (R1.out.done _ _).1, (R1.out.done _ _).2⟩

set_option maxHeartbeats 4000000 in
theorem reach_16 (c u wd : Int) (nm : ByteArray) (g : Nat) (s : St) (w : World) (h : In w g s) (u0 : 0 ≤ u) :
    Calls Try.prog 16 #[.pointer (some ⟨g, 0, none⟩), codeV c nm 16 u wd] w (Ret w g (placeV (mFetch24 s).1 false) (mFetch24 s).2) := by
  have R := Lib.hid (laid3 w g h c 16 u wd nm)
  have lg := h.lt
  clear h
  go_enter Try.func16, Try.ntmps16
  go_wp2_with fail
  obtain ⟨W1, hW⟩ : ∃ W1, W1 = (w.alloc (.cells #[.int .u8 c, .string nm, .int .u8 16, .int .u8 u, .int .u8 wd] 23)).alloc (.cells #[.int .u32 0, .bool false] 31) := ⟨_, rfl⟩
  rw [← hW] at R ⊢
  obtain ⟨B, hB⟩ : ∃ B, B = w.heap.size := ⟨_, rfl⟩
  rw [← hB] at R ⊢
  clear hW hB
  refine (fetch24_m g s _ R.out.i).mono ?_
  rintro e w1 ⟨⟨rfl, k1, u1⟩, o0, o1⟩
  have R1 := Lib.hid (R.out.step k1 u1)
  obtain ⟨z0, z1, f0, f1⟩ := R1.out.facts
  clear k1 u1 R
  go_wp2_with fail
  refine bodyPost_ret (v := placeV (mFetch24 s).1 false) (by simp [results, Try.results16, go_sem, z0, z1]) rfl ⟨rfl, ?_, ?_⟩
  · exact (R1.out.done _ _).1
  · exact (R1.out.done _ _).2

set_option maxHeartbeats 4000000 in
theorem reach_else (c m u wd : Int) (nm : ByteArray) (g : Nat) (s : St) (w : World) (h : In w g s) (u0 : 0 ≤ u)
    (n5 : (m == 5) = false) (n6 : (m == 6) = false) (n7 : (m == 7) = false) (n8 : (m == 8) = false) (n9 : (m == 9) = false) (n10 : (m == 10) = false) (n11 : (m == 11) = false) (n12 : (m == 12) = false) (n13 : (m == 13) = false) (n14 : (m == 14) = false) (n15 : (m == 15) = false) (n16 : (m == 16) = false) (n17 : (m == 17) = false) (n21 : (m == 21) = false) (n22 : (m == 22) = false) :
    Calls Try.prog 16 #[.pointer (some ⟨g, 0, none⟩), codeV c nm m u wd] w (Ret w g (placeV 0 false) s) := by
  have H := Lib.hid h
  clear h
  go_enter Try.func16, Try.ntmps16
  go_wp2_with fail
  have hb : Below w.heap.size w ((w.alloc (.cells #[.int .u8 c, .string nm, .int .u8 m, .int .u8 u, .int .u8 wd] 23)).alloc (.cells #[.int .u32 0, .bool false] 31)) := belowA (belowA (Below.refl _ _) _) _
  exact bodyPost_ret (v := placeV 0 false) (by simp [results, Try.results16, go_sem]) rfl ⟨rfl, H.out.upd hb, Upd.ofBelow hb g⟩
end Go.Proofs.Ytmejjejafimhfaa
