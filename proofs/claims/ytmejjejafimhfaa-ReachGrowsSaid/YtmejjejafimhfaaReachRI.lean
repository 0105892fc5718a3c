/- Reach: the modes I. -/
import Derived.Test.YtmejjejafimhfaaReachR
import Derived.Deep.RegionHeld3
namespace Go.Proofs.Ytmejjejafimhfaa
open Go.RowKit
set_option linter.unusedVariables false
set_option linter.unusedSimpArgs false
set_option maxRecDepth 100000

set_option maxHeartbeats 4000000 in
theorem reach_17 (c u wd : Int) (nm : ByteArray) (g : Nat) (s : St) (w : World) (h : In w g s) (u0 : 0 ≤ u) :
    Calls Try.prog 16 #[.pointer (some ⟨g, 0, none⟩), codeV c nm 17 u wd] w (Ret w g (placeV (mLongX s).1 false) (mLongX s).2) := by
  have R := Lib.hid (laid3 w g h c 17 u wd nm)
  have lg := h.lt
  clear h
  go_enter Try.func16, Try.ntmps16
  go_wp2_with fail
  obtain ⟨W1, hW⟩ : ∃ W1, W1 = (w.alloc (.cells #[.int .u8 c, .string nm, .int .u8 17, .int .u8 u, .int .u8 wd] 23)).alloc (.cells #[.int .u32 0, .bool false] 31) := ⟨_, rfl⟩
  rw [← hW] at R ⊢
  obtain ⟨B, hB⟩ : ∃ B, B = w.heap.size := ⟨_, rfl⟩
  rw [← hB] at R ⊢
  clear hW hB
  have hgP : g ≠ B + 1 := by have := R.out.gB; omega
  obtain ⟨a0, a1, x0, x1, y0, y1, _⟩ := R.out.i.ok
  have R0 := Lib.hid (R.out.below (belowD (Below.refl _ _)))
  have cx := R0.out.i.regs.2.1
  obtain ⟨⟨o, s1⟩, hq⟩ : ∃ q, mFetch24 s = q := ⟨_, rfl⟩
  have hx : s1.r.x = s.r.x := by
    have := congrArg (fun q => q.2.r.x) hq
    exact this.symm
  have hm : mLongX s = ((o + s.r.x) % 16777216, s1) := by simp only [mLongX, hq, hx]
  have HQ := Lib.hid hq
  have HM := Lib.hid hm
  have HX := Lib.hid hx
  have ewx : IntKind.u32.wrap s.r.x = s.r.x := by rw [IntKind.wrap_u32]; omega
  clear hq hm hx R
  go_region_held3 (fun w' => w'.cell? ⟨g, 1, none⟩ = some (.int .u16 s.r.x))
    (first
      | (with_reducible exact cx)
      | (with_reducible exact dx)
      | (with_reducible exact keepSet (keepSet dx hgP) hgP))
    (first
      | (go_at_call 30; refine (fetch24_m g s _ R0.out.i).mono ?_; rw [HQ.out]; rintro e w1 ⟨⟨rfl, k1, u1⟩, o0, o1⟩; simp only at o0 o1; have dx := k1.regs.2.1; rw [HX.out] at dx; have R1 := Lib.hid (R0.out.step k1 u1); have ez : IntKind.u32.wrap (o + s.r.x) = o + s.r.x := (by rw [IntKind.wrap_u32]; omega); have el := and24_32 (o + s.r.x) (by omega) (by omega); obtain ⟨z0, z1, f0, f1⟩ := R1.out.facts; clear k1 u1))
  all_goals
    go_wp2_with fail
    refine bodyPost_ret (v := placeV ((o + s.r.x) % 16777216) false) (by simp [results, Try.results16, go_sem, z0, z1]) rfl ?_
    rw [HM.out]
    exact ⟨rfl, (R1.out.done _ _).1, (R1.out.done _ _).2⟩
end Go.Proofs.Ytmejjejafimhfaa
