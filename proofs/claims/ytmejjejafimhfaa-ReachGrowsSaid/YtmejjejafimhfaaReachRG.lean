/- Reach: the modes G. -/
import Derived.Test.YtmejjejafimhfaaReachR
import Derived.Deep.RegionHeld3
namespace Go.Proofs.Ytmejjejafimhfaa
open Go.RowKit
set_option linter.unusedVariables false
set_option linter.unusedSimpArgs false
set_option maxRecDepth 100000

set_option maxHeartbeats 4000000 in
theorem reach_15 (c u wd : Int) (nm : ByteArray) (g : Nat) (s : St) (w : World) (h : In w g s) (u0 : 0 ≤ u) :
    Calls Try.prog 16 #[.pointer (some ⟨g, 0, none⟩), codeV c nm 15 u wd] w (Ret w g (placeV (mAbsY u s).1 false) (mAbsY u s).2) := by
  have R := Lib.hid (laid3 w g h c 15 u wd nm)
  have lg := h.lt
  clear h
  go_enter Try.func16, Try.ntmps16
  go_wp2_with fail
  obtain ⟨W1, hW⟩ : ∃ W1, W1 = (w.alloc (.cells #[.int .u8 c, .string nm, .int .u8 15, .int .u8 u, .int .u8 wd] 23)).alloc (.cells #[.int .u32 0, .bool false] 31) := ⟨_, rfl⟩
  rw [← hW] at R ⊢
  obtain ⟨B, hB⟩ : ∃ B, B = w.heap.size := ⟨_, rfl⟩
  rw [← hB] at R ⊢
  clear hW hB
  have hgP : g ≠ B + 1 := by have := R.out.gB; omega
  have hBP : B ≠ B + 1 := by omega
  obtain ⟨a0, a1, x0, x1, y0, y1, _⟩ := R.out.i.ok
  have R0 := Lib.hid (R.out.below (belowD (Below.refl _ _)))
  obtain ⟨c0, c1, c2, c3, c4⟩ := R0.out.code
  have cx := R0.out.i.regs.2.2.1
  obtain ⟨⟨o, s1⟩, hq⟩ : ∃ q, mFetch16 s = q := ⟨_, rfl⟩
  have hx : s1.r.y = s.r.y := by
    have := congrArg (fun q => q.2.r.y) hq
    exact this.symm
  have hm : mAbsY u s = mIndexed u (bankOf s1.r o) s.r.y s1 := by simp only [mAbsY, mAbs, hq, hx]
  have HQ := Lib.hid hq
  have hxi : (mIndexed u (bankOf s1.r o) s.r.y s1).2.r.y = s.r.y := by rw [indexed_r]; exact hx
  have HM := Lib.hid hm
  have HX := Lib.hid hx
  have HXI := Lib.hid hxi
  clear hq hm hx hxi R
  go_region_held3 (fun w' => w'.cell? ⟨B, 0, none⟩ = some (.int .u8 c) ∧ w'.cell? ⟨B, 1, none⟩ = some (.string nm) ∧ w'.cell? ⟨B, 2, none⟩ = some (.int .u8 15) ∧ w'.cell? ⟨B, 3, none⟩ = some (.int .u8 u) ∧ w'.cell? ⟨B, 4, none⟩ = some (.int .u8 wd) ∧ w'.cell? ⟨g, 2, none⟩ = some (.int .u16 s.r.y))
    (first
      | (with_reducible exact ⟨c0, c1, c2, c3, c4, cx⟩)
      | (with_reducible exact ⟨d0, d1, d2, d3, d4, dx⟩)
      | (with_reducible exact ⟨e0, e1, e2, e3, e4, ex⟩)
      | (with_reducible exact ⟨keepSet (keepSet e0 hBP) hBP, keepSet (keepSet e1 hBP) hBP, keepSet (keepSet e2 hBP) hBP, keepSet (keepSet e3 hBP) hBP, keepSet (keepSet e4 hBP) hBP, keepSet (keepSet ex hgP) hgP⟩)
    )
    (first
    | (go_at_call 29; refine (fetch16_m g s _ R0.out.i).mono ?_; rw [HQ.out]; rintro e w1 ⟨⟨rfl, k1, u1⟩, o0, o1⟩; simp only at o0 o1; have dx := k1.regs.2.2.1; rw [HX.out] at dx; have R1 := Lib.hid (R0.out.step k1 u1); have eo : IntKind.u32.wrap o = o := (by rw [IntKind.wrap_u32]; omega); obtain ⟨d0, d1, d2, d3, d4⟩ := R1.out.code; clear k1 u1)
    | (go_at_call 23; refine (bank_m o g s1 _ R1.out.i o0 (by omega)).mono ?_; rintro e w2 ⟨⟨rfl, rfl⟩, q0, q1⟩)
    | (go_at_call 27; refine (indexed_m c 15 u wd (bankOf s1.r o) s.r.y nm g s1 _ R1.out.i q0 q1 y0 y1 u0).mono ?_; rintro e w3 ⟨rfl, k3, u3⟩; have ex := k3.regs.2.2.1; rw [HXI.out] at ex; have R3 := Lib.hid (R1.out.step k3 u3); obtain ⟨e0, e1, e2, e3, e4⟩ := R3.out.code; obtain ⟨z0, z1, f0, f1⟩ := R3.out.facts; clear k3 u3)
    )
  all_goals
    go_wp2_with fail
    refine bodyPost_ret (v := placeV (mIndexed u (bankOf s1.r o) s.r.y s1).1 false) (by simp [results, Try.results16, go_sem, z0, z1]) rfl ?_
    rw [HM.out]
    exact ⟨rfl, (R3.out.done _ _).1, (R3.out.done _ _).2⟩
end Go.Proofs.Ytmejjejafimhfaa
