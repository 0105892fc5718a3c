/- Reach: the modes D. -/
import Derived.Test.YtmejjejafimhfaaReachR
import Derived.Deep.RegionHeld3
namespace Go.Proofs.Ytmejjejafimhfaa
open Go.RowKit
set_option linter.unusedVariables false
set_option linter.unusedSimpArgs false
set_option maxRecDepth 100000

set_option maxHeartbeats 4000000 in
theorem reach_9 (c u wd : Int) (nm : ByteArray) (g : Nat) (s : St) (w : World) (h : In w g s) (u0 : 0 ≤ u) :
    Calls Try.prog 16 #[.pointer (some ⟨g, 0, none⟩), codeV c nm 9 u wd] w (Ret w g (placeV (mIndL s).1 false) (mIndL s).2) := by
  have R := Lib.hid (laid3 w g h c 9 u wd nm)
  have lg := h.lt
  clear h
  go_enter Try.func16, Try.ntmps16
  go_wp2_with fail
  obtain ⟨W1, hW⟩ : ∃ W1, W1 = (w.alloc (.cells #[.int .u8 c, .string nm, .int .u8 9, .int .u8 u, .int .u8 wd] 23)).alloc (.cells #[.int .u32 0, .bool false] 31) := ⟨_, rfl⟩
  rw [← hW] at R ⊢
  obtain ⟨B, hB⟩ : ∃ B, B = w.heap.size := ⟨_, rfl⟩
  rw [← hB] at R ⊢
  clear hW hB
  refine (offset_m g s _ R.out.i).mono ?_
  rintro e w1 ⟨⟨rfl, k1, u1⟩, o0, o1⟩
  obtain ⟨⟨o, s1⟩, hq⟩ : ∃ q, mOffset s = q := ⟨_, rfl⟩
  rw [hq] at k1 o0 o1 ⊢
  simp only at k1 o0 o1 ⊢
  have R1 := Lib.hid (R.out.step k1 u1)
  have HQ := Lib.hid hq
  clear k1 u1 R hq
  go_wp2_with fail
  refine (pointer_m o g s1 _ R1.out.i o0 (by omega)).mono ?_
  rintro e w2 ⟨⟨rfl, k2, u2⟩, p0, p1⟩
  obtain ⟨⟨p, s2⟩, ht⟩ : ∃ q, mPointer o s1 = q := ⟨_, rfl⟩
  rw [ht] at k2 p0 p1 ⊢
  simp only at k2 p0 p1 ⊢
  obtain ⟨a0, a1, x0, x1, y0, y1, s0, s1', d0, d1, _⟩ := k2.ok
  obtain ⟨c0, c1, c2, c3, c4, c5, c6, c7, c8, c9⟩ := k2.regs
  have R2 := Lib.hid (R1.out.step k2 u2)
  have HT := Lib.hid ht
  have ed : IntKind.u32.wrap (o + 2) = o + 2 := by rw [IntKind.wrap_u32]; omega
  clear k2 u2 R1 ht
  go_wp2_with fail
  refine (wdirect s2.r.a s2.r.x s2.r.y s2.r.s s2.r.d s2.r.pc s2.r.b s2.r.k s2.r.p (o + 2) s2.r.e _ d0 d1 (by omega) (by omega)).mono ?_
  rintro e w3 ⟨rfl, hb3⟩
  obtain ⟨dr0, dr1⟩ := direct_rng s2.r.d s2.r.e (o + 2) d0 d1 (by omega)
  have R3 := Lib.hid (R2.out.below hb3)
  clear hb3 R2 c0 c1 c2 c3 c4 c5 c6 c7 c8 c9
  go_wp2_with fail
  refine (read_m (directOf s2.r.d s2.r.e (o + 2)) g s2 _ R3.out.i dr0 (by omega)).mono ?_
  obtain ⟨v0, v1⟩ := mRead_rng R3.out.i (directOf s2.r.d s2.r.e (o + 2))
  obtain ⟨⟨v, s3⟩, hv⟩ : ∃ q, mRead (directOf s2.r.d s2.r.e (o + 2)) s2 = q := ⟨_, rfl⟩
  have r3 : s3.r = s2.r := by
    have := congrArg (fun q => q.2.r) hv
    exact this.symm
  rw [hv] at v0 v1 ⊢
  simp only at v0 v1 ⊢
  rintro e w4 ⟨rfl, k4, u4⟩
  have R4 := Lib.hid (R3.out.step k4 u4)
  have ev : IntKind.u32.wrap v = v := by rw [IntKind.wrap_u32]; omega
  have ew : IntKind.u32.wrap (v * 65536) = v * 65536 := by rw [IntKind.wrap_u32]; omega
  have eo := or_high 16 (by omega) p (v * 65536) (by omega) (by omega) (by omega) p0 (by omega)
  obtain ⟨a, ha⟩ : ∃ a, p + v * 65536 = a := ⟨_, rfl⟩
  rw [ha] at eo
  have aa0 : 0 ≤ a := by omega
  have aa1 : a ≤ 16777215 := by omega
  have HA := Lib.hid ha
  have HR3 := Lib.hid r3
  obtain ⟨z0, z1, f0, f1⟩ := R4.out.facts
  obtain ⟨b0, b1, b2, b3, b4⟩ := R4.out.code
  have el := and24_32 a (by omega) (by omega)
  rw [show a % 16777216 = a by omega] at el
  have hm : mIndL s = (a, s3) := by simp only [mIndL, HQ.out, HT.out, hv, ha]
  have HM := Lib.hid hm
  clear k4 u4 R3 HQ HT hv ha hm r3
  go_wp2_with fail
  refine bodyPost_ret (v := placeV a false) (by simp [results, Try.results16, go_sem, z0, z1]) rfl ?_
  rw [HM.out]
  exact ⟨rfl, (R4.out.done _ _).1, (R4.out.done _ _).2⟩
end Go.Proofs.Ytmejjejafimhfaa
