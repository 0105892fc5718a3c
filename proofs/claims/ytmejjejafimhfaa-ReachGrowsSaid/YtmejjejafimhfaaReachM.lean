/- Reach, whole. -/
import Derived.Test.YtmejjejafimhfaaReachRA
import Derived.Test.YtmejjejafimhfaaReachRB
import Derived.Test.YtmejjejafimhfaaReachRC
import Derived.Test.YtmejjejafimhfaaReachRD
import Derived.Test.YtmejjejafimhfaaReachRE
import Derived.Test.YtmejjejafimhfaaReachRF
import Derived.Test.YtmejjejafimhfaaReachRG
import Derived.Test.YtmejjejafimhfaaReachRH
import Derived.Test.YtmejjejafimhfaaReachRI
namespace Go.Proofs.Ytmejjejafimhfaa
open Go.RowKit
set_option linter.unusedVariables false
set_option linter.unusedSimpArgs false

theorem reach_m (c m u wd : Int) (nm : ByteArray) (g : Nat) (s : St) (w : World) (h : In w g s) (u0 : 0 ≤ u) :
    Calls Try.prog 16 #[.pointer (some ⟨g, 0, none⟩), codeV c nm m u wd] w (Ret w g (placeV (mReach m u s).1.1 (mReach m u s).1.2) (mReach m u s).2) := by
  by_cases k5 : m = 5
  · subst k5; exact reach_5 c u wd nm g s w h u0
  by_cases k6 : m = 6
  · subst k6; exact reach_6 c u wd nm g s w h u0
  by_cases k7 : m = 7
  · subst k7; exact reach_7 c u wd nm g s w h u0
  by_cases k8 : m = 8
  · subst k8; exact reach_8 c u wd nm g s w h u0
  by_cases k9 : m = 9
  · subst k9; exact reach_9 c u wd nm g s w h u0
  by_cases k10 : m = 10
  · subst k10; exact reach_10 c u wd nm g s w h u0
  by_cases k11 : m = 11
  · subst k11; exact reach_11 c u wd nm g s w h u0
  by_cases k12 : m = 12
  · subst k12; exact reach_12 c u wd nm g s w h u0
  by_cases k13 : m = 13
  · subst k13; exact reach_13 c u wd nm g s w h u0
  by_cases k14 : m = 14
  · subst k14; exact reach_14 c u wd nm g s w h u0
  by_cases k15 : m = 15
  · subst k15; exact reach_15 c u wd nm g s w h u0
  by_cases k16 : m = 16
  · subst k16; exact reach_16 c u wd nm g s w h u0
  by_cases k17 : m = 17
  · subst k17; exact reach_17 c u wd nm g s w h u0
  by_cases k21 : m = 21
  · subst k21; exact reach_21 c u wd nm g s w h u0
  by_cases k22 : m = 22
  · subst k22; exact reach_22 c u wd nm g s w h u0
  have e : mReach m u s = ((0, false), s) := by simp [mReach, k5, k6, k7, k8, k9, k10, k11, k12, k13, k14, k15, k16, k17, k21, k22]
  rw [e]
  exact reach_else c m u wd nm g s w h u0 (by simpa using k5) (by simpa using k6) (by simpa using k7) (by simpa using k8) (by simpa using k9) (by simpa using k10) (by simpa using k11) (by simpa using k12) (by simpa using k13) (by simpa using k14) (by simpa using k15) (by simpa using k16) (by simpa using k17) (by simpa using k21) (by simpa using k22)
end Go.Proofs.Ytmejjejafimhfaa
