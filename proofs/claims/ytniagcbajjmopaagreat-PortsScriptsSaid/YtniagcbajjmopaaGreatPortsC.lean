/- What reads of the arithmetic say. -/
import Derived.Test.YtniagcbajjmopaaGreatPortsB
import Derived.Test.YtniagcbajjmopaaGreatRel
namespace Go.Proofs.YtniagcbajjmopaaGreat
open Go.RowKit
set_option linter.unusedVariables false
set_option linter.unusedSimpArgs false
set_option maxRecDepth 100000
abbrev wdsV (s : Pt) : Value := .agg #[.int .u16 s.quotient, .int .u16 s.product, .int .u16 s.auto0, .int .u16 s.auto1, .int .u16 0, .int .u16 0]
def wdsC (s : Pt) : Array Value := #[.int .u16 s.quotient, .int .u16 s.product, .int .u16 s.auto0, .int .u16 s.auto1, .int .u16 0, .int .u16 0]
/-- What each operation of the region yields. -/
def rdS (W : World) (g : Nat) (s : Pt) : Nat → Value → List Value → World → Prop
  | 3, v, _, _ => v = .int .u16 s.quotient
  | 7, v, _, _ => v = .int .u16 s.product
  | 12, v, _, _ => v = .int .u16 s.auto0
  | 17, v, _, _ => v = .int .u16 s.auto1
  | 0, v, _, _ => v = poP g
  | 1, v, _, _ => v = poP g
  | 2, v, _, _ => v = .pointer (some ⟨g, 6, none⟩)
  | 4, v, _, _ => v = poP g
  | 5, v, _, _ => v = poP g
  | 6, v, _, _ => v = .pointer (some ⟨g, 7, none⟩)
  | 8, v, _, _ => v = poP g
  | 9, v, _, _ => v = poP g
  | 10, v, _, _ => v = .pointer (some ⟨g, 15, none⟩)
  | 11, v, _, _ => v = .pointer (some ⟨g, 15, none⟩)
  | 13, v, _, _ => v = poP g
  | 14, v, _, _ => v = poP g
  | 15, v, _, _ => v = .pointer (some ⟨g, 15, none⟩)
  | 16, v, _, _ => v = .pointer (some ⟨g, 16, none⟩)
  | 18, v, _, _ => v = wdsV s
  | 19, v, _, w => ∃ G cs, v = .pointer (some ⟨G, 0, none⟩) ∧ cs.size = 6 ∧ Blk w G 62 cs ∧ W.heap.size ≤ G
  | 20, _, vs, w => ∃ G, vs.head? = some (.pointer (some ⟨G, 0, none⟩)) ∧ Blk w G 62 (wdsC s) ∧ W.heap.size ≤ G
  | _, _, _, _ => True
def rdEv (s : Pt) (w w' : World) : Prop := ∀ g t cs, Blk w g t cs → Blk w' g t cs ∨ (t = 62 ∧ Blk w' g t (wdsC s))
theorem rdEv_refl (s : Pt) (w : World) : rdEv s w w := fun _ _ _ h => Or.inl h
theorem rdEv_below {s : Pt} {w w' : World} (h : Below w.heap.size w w') : rdEv s w w' := fun _ _ _ k => Or.inl (k.kept h)
theorem rdS_mono {W : World} {g : Nat} {s : Pt} (i : Nat) (v : Value) (q : List Value) (w w' : World) (h : rdS W g s i v q w) (k : rdEv s w w') : rdS W g s i v q w' := by
  match i, h with
  | 0, h => exact h
  | 1, h => exact h
  | 2, h => exact h
  | 3, h => exact h
  | 4, h => exact h
  | 5, h => exact h
  | 6, h => exact h
  | 7, h => exact h
  | 8, h => exact h
  | 9, h => exact h
  | 10, h => exact h
  | 11, h => exact h
  | 12, h => exact h
  | 13, h => exact h
  | 14, h => exact h
  | 15, h => exact h
  | 16, h => exact h
  | 17, h => exact h
  | 18, h => exact h
  | 19, ⟨G, cs, a, b, h, l⟩ =>
    rcases k G _ cs h with k | ⟨_, k⟩
    · exact ⟨G, cs, a, b, k, l⟩
    · exact ⟨G, _, a, rfl, k, l⟩
  | 20, ⟨G, a, h, l⟩ =>
    rcases k G _ _ h with k | ⟨_, k⟩
    · exact ⟨G, a, k, l⟩
    · exact ⟨G, a, k, l⟩
  | i + 21, _ => exact True.intro
theorem Blk.ne {w : World} {g g' : Nat} {t t' : TypeId} {cs cs' : Array Value} (h : Blk w g t cs) (k : Blk w g' t' cs') (e : t ≠ t') : g ≠ g' := by
  rintro rfl
  unfold Blk at h k
  rw [h] at k
  cases k
  exact e rfl
theorem Blk.uniq {w : World} {g : Nat} {t t' : TypeId} {cs cs' : Array Value} (h : Blk w g t cs) (k : Blk w g t' cs') : t = t' ∧ cs = cs' := by
  unfold Blk at h k
  rw [h] at k
  cases k
  exact ⟨rfl, rfl⟩
theorem wds_put {w : World} {G : Nat} {cs : Array Value} (h : Blk w G 62 cs) (hs : cs.size = 6) (s : Pt) :
    Blk ((((((w.setCell ⟨G, 0, none⟩ (.int .u16 s.quotient)).setCell ⟨G, 1, none⟩ (.int .u16 s.product)).setCell ⟨G, 2, none⟩ (.int .u16 s.auto0)).setCell ⟨G, 3, none⟩ (.int .u16 s.auto1)).setCell ⟨G, 4, none⟩ (.int .u16 0)).setCell ⟨G, 5, none⟩ (.int .u16 0)) G 62 (wdsC s) ∧
    rdEv s w ((((((w.setCell ⟨G, 0, none⟩ (.int .u16 s.quotient)).setCell ⟨G, 1, none⟩ (.int .u16 s.product)).setCell ⟨G, 2, none⟩ (.int .u16 s.auto0)).setCell ⟨G, 3, none⟩ (.int .u16 s.auto1)).setCell ⟨G, 4, none⟩ (.int .u16 0)).setCell ⟨G, 5, none⟩ (.int .u16 0)) := by
  obtain ⟨l⟩ := cs
  simp at hs
  match l, hs with
  | [a0, a1, a2, a3, a4, a5], _ =>
    have k := ((((((h.set_ 0 (.int .u16 s.quotient)).set_ 1 (.int .u16 s.product)).set_ 2 (.int .u16 s.auto0)).set_ 3 (.int .u16 s.auto1)).set_ 4 (.int .u16 0)).set_ 5 (.int .u16 0))
    refine ⟨k, ?_⟩
    intro g' t cs' hb
    by_cases e : g' = G
    · subst e
      obtain ⟨rfl, _⟩ := Blk.uniq hb h
      exact Or.inr ⟨rfl, k⟩
    · exact Or.inl ((((((hb.other (fun q => e q.symm) _).other (fun q => e q.symm) _).other (fun q => e q.symm) _).other (fun q => e q.symm) _).other (fun q => e q.symm) _).other (fun q => e q.symm) _)
section
variable {w : World} {g : Nat} {s : Pt}
set_option maxHeartbeats 4000000 in
theorem read_word (A : Po w g s) (p o x : Int) (hx : (p = 16916 ∧ x = s.quotient % 256) ∨ (p = 16917 ∧ x = s.quotient / 256) ∨ (p = 16918 ∧ x = s.product % 256) ∨ (p = 16919 ∧ x = s.product / 256)) (q0 : 0 ≤ s.quotient) (q1 : s.quotient ≤ 65535) (p0 : 0 ≤ s.product) (p1 : s.product ≤ 65535) :
    Calls Tryz.prog 8 #[poP g, .int .u16 p, .int .u8 o] w (Says w (.tuple #[.int .u8 x, .bool true])) := by
  have c6 : w.cell? ⟨g, 6, none⟩ = some (.int .u16 s.quotient) := A.cell 6
  have c7 : w.cell? ⟨g, 7, none⟩ = some (.int .u16 s.product) := A.cell 7
  have c15 : w.cell? ⟨g, 15, none⟩ = some (.int .u16 s.auto0) := A.cell 15
  have c16 : w.cell? ⟨g, 16, none⟩ = some (.int .u16 s.auto1) := A.cell 16
  clear A
  rcases hx with ⟨rfl, rfl⟩ | ⟨rfl, rfl⟩ | ⟨rfl, rfl⟩ | ⟨rfl, rfl⟩
  all_goals
      go_enter Tryz.func8, Tryz.ntmps8
      go_upto_region 18 with (fail)
      go_cut [8] from 66 to 84 (fun s8 wx => ∃ G, s8 = .pointer (some ⟨G, 0, none⟩) ∧ Blk wx G 62 (wdsC s) ∧ Below w.heap.size w wx)
      case first =>
        refine wp_region_rel (C := fun w' => Below w.heap.size w w') (S := rdS w g s) (Ev := rdEv s) (by kernel_rfl) (by kernel_rfl) rdS_mono ?_ ?_ ?_
        · exact belowD (Below.refl _ _)
        · simp only [stepsOf]
          refine ⟨fun us w' hw hd => stepOf_plain rfl ?_, fun us w' hw hd => stepOf_plain rfl ?_, fun us w' hw hd => stepOf_plain rfl ?_, fun us w' hw hd => stepOf_plain rfl ?_, fun us w' hw hd => stepOf_plain rfl ?_, fun us w' hw hd => stepOf_plain rfl ?_, fun us w' hw hd => stepOf_plain rfl ?_, fun us w' hw hd => stepOf_plain rfl ?_, fun us w' hw hd => stepOf_plain rfl ?_, fun us w' hw hd => stepOf_plain rfl ?_, fun us w' hw hd => stepOf_plain rfl ?_, fun us w' hw hd => stepOf_plain rfl ?_, fun us w' hw hd => stepOf_plain rfl ?_, fun us w' hw hd => stepOf_plain rfl ?_, fun us w' hw hd => stepOf_plain rfl ?_, fun us w' hw hd => stepOf_plain rfl ?_, fun us w' hw hd => stepOf_plain rfl ?_, fun us w' hw hd => stepOf_plain rfl ?_, fun us w' hw hd => stepOf_plain rfl ?_, fun us w' hw hd => stepOf_plain rfl ?_, fun us w' hw hd => stepOf_plain rfl ?_, trivial⟩
          all_goals simp only [fill, List.filterMap_cons, List.filterMap_nil]
          · go_simp
            exact ⟨_, rfl, hw, rfl, rdEv_refl _ _⟩
          · have h : us 66 = poP g := hd.1 rfl
            go_simp
            exact ⟨_, rfl, hw, by first | rfl | exact h, rdEv_refl _ _⟩
          · have h : us 67 = poP g := hd.1 rfl
            go_simp
            exact ⟨_, rfl, hw, rfl, rdEv_refl _ _⟩
          · have h : us 68 = .pointer (some ⟨g, 6, none⟩) := hd.1 rfl
            have c := keepC hw c6
            go_simp
            exact ⟨_, rfl, hw, rfl, rdEv_refl _ _⟩
          · go_simp
            exact ⟨_, rfl, hw, rfl, rdEv_refl _ _⟩
          · have h : us 70 = poP g := hd.1 rfl
            go_simp
            exact ⟨_, rfl, hw, by first | rfl | exact h, rdEv_refl _ _⟩
          · have h : us 71 = poP g := hd.1 rfl
            go_simp
            exact ⟨_, rfl, hw, rfl, rdEv_refl _ _⟩
          · have h : us 72 = .pointer (some ⟨g, 7, none⟩) := hd.1 rfl
            have c := keepC hw c7
            go_simp
            exact ⟨_, rfl, hw, rfl, rdEv_refl _ _⟩
          · go_simp
            exact ⟨_, rfl, hw, rfl, rdEv_refl _ _⟩
          · have h : us 74 = poP g := hd.1 rfl
            go_simp
            exact ⟨_, rfl, hw, by first | rfl | exact h, rdEv_refl _ _⟩
          · have h : us 75 = poP g := hd.1 rfl
            go_simp
            exact ⟨_, rfl, hw, rfl, rdEv_refl _ _⟩
          · have h : us 76 = .pointer (some ⟨g, 15, none⟩) := hd.1 rfl
            go_simp
            exact ⟨_, rfl, hw, by first | rfl | exact h, rdEv_refl _ _⟩
          · have h : us 77 = .pointer (some ⟨g, 15, none⟩) := hd.1 rfl
            have c := keepC hw c15
            go_simp
            exact ⟨_, rfl, hw, rfl, rdEv_refl _ _⟩
          · go_simp
            exact ⟨_, rfl, hw, rfl, rdEv_refl _ _⟩
          · have h : us 79 = poP g := hd.1 rfl
            go_simp
            exact ⟨_, rfl, hw, by first | rfl | exact h, rdEv_refl _ _⟩
          · have h : us 80 = poP g := hd.1 rfl
            go_simp
            exact ⟨_, rfl, hw, rfl, rdEv_refl _ _⟩
          · have h : us 81 = .pointer (some ⟨g, 15, none⟩) := hd.1 rfl
            go_simp
            exact ⟨_, rfl, hw, by first | rfl | exact h, rdEv_refl _ _⟩
          · have h : us 82 = .pointer (some ⟨g, 16, none⟩) := hd.1 rfl
            have c := keepC hw c16
            go_simp
            exact ⟨_, rfl, hw, rfl, rdEv_refl _ _⟩
          · have h1 : us 69 = .int .u16 s.quotient := hd.1 rfl
            have h2 : us 73 = .int .u16 s.product := hd.2.1 rfl
            have h3 : us 78 = .int .u16 s.auto0 := hd.2.2.1 rfl
            have h4 : us 83 = .int .u16 s.auto1 := hd.2.2.2.1 rfl
            go_simp
            exact ⟨_, rfl, hw, rfl, rdEv_refl _ _⟩
          · go_simp
            exact ⟨_, rfl, belowA hw _, ⟨w'.heap.size, _, rfl, rfl, Blk.new _ _ _, hw.size⟩, rdEv_below (belowA (Below.refl _ _) _)⟩
          · obtain ⟨G, cs, e1, e2, e3, e4⟩ := hd.1 rfl
            have e1 : us 8 = .pointer (some ⟨G, 0, none⟩) := e1
            have e5 : us 84 = wdsV s := hd.2.1 rfl
            obtain ⟨k1, k2⟩ := wds_put e3 e2 s
            obtain ⟨v0, z0⟩ : ∃ v, w'.cell? ⟨G, 0, none⟩ = some v := ⟨_, (e3.cell 0).trans (Array.getElem?_eq_getElem (by omega))⟩
            obtain ⟨v1, z1⟩ : ∃ v, w'.cell? ⟨G, 1, none⟩ = some v := ⟨_, (e3.cell 1).trans (Array.getElem?_eq_getElem (by omega))⟩
            obtain ⟨v2, z2⟩ : ∃ v, w'.cell? ⟨G, 2, none⟩ = some v := ⟨_, (e3.cell 2).trans (Array.getElem?_eq_getElem (by omega))⟩
            obtain ⟨v3, z3⟩ : ∃ v, w'.cell? ⟨G, 3, none⟩ = some v := ⟨_, (e3.cell 3).trans (Array.getElem?_eq_getElem (by omega))⟩
            obtain ⟨v4, z4⟩ : ∃ v, w'.cell? ⟨G, 4, none⟩ = some v := ⟨_, (e3.cell 4).trans (Array.getElem?_eq_getElem (by omega))⟩
            obtain ⟨v5, z5⟩ : ∃ v, w'.cell? ⟨G, 5, none⟩ = some v := ⟨_, (e3.cell 5).trans (Array.getElem?_eq_getElem (by omega))⟩
            have f0 := e3.frozen 0
            have f1 := e3.frozen 1
            have f2 := e3.frozen 2
            have f3 := e3.frozen 3
            have f4 := e3.frozen 4
            have f5 := e3.frozen 5
            have K1 := Lib.hid k1
            have K2 := Lib.hid k2
            clear k1 k2 e3
            go_simp
            exact ⟨undef, rfl, belowS (belowS (belowS (belowS (belowS (belowS hw e4 _) e4 _) e4 _) e4 _) e4 _) e4 _, ⟨G, congrArg some e1, K1.out, e4⟩, K2.out⟩
        · intro us w' hw ha
          obtain ⟨_, _, _, _, _, _, _, _, _, _, _, _, _, _, _, _, _, _, _, _, ⟨G, hp, hb, hl⟩, _⟩ := ha
          have hp' : some (us 8) = some (.pointer (some ⟨G, 0, none⟩)) := hp
          have e8 : us 8 = .pointer (some ⟨G, 0, none⟩) := by injection hp'
          have REL : Hid (∃ G, us 8 = .pointer (some ⟨G, 0, none⟩) ∧ Blk w' G 62 (wdsC s) ∧ Below w.heap.size w w') := ⟨G, e8, hb, hw⟩
          clear hp hp' e8 hb hw hl
          simp only [fill, List.filterMap_cons, List.filterMap_nil, List.contains_cons, List.contains_nil, Nat.zero_add, Nat.reduceAdd, Nat.reduceBEq, Bool.or_false, Bool.or_true, Bool.false_or, Bool.true_or, Bool.or_self, Bool.false_eq_true, if_true, if_false]
          go_wp2_with fail
          go_meet
          exact REL.out
      case rest =>
        obtain ⟨G, rfl, hb, hw⟩ := hcut
        have z0 : wc.cell? ⟨G, 0, none⟩ = some (.int .u16 s.quotient) := hb.cell 0
        have z1 : wc.cell? ⟨G, 1, none⟩ = some (.int .u16 s.product) := hb.cell 1
        have HW := Lib.hid hw
        clear hb hw c6 c7 c15 c16
        go_wp2_with fail
        go_ret2
        refine ⟨?_, HW.out⟩
        first
          | (show Ending.returned (.tuple #[.int .u8 (s.quotient / 2 ^ min (IntKind.u16.wrap (8 * bits .and .u16 0 1)).toNat 16 % 256), .bool true]) = _; rw [show min (IntKind.u16.wrap (8 * bits .and .u16 0 1)).toNat 16 = 0 by decide +kernel, Int.pow_zero, Int.ediv_one])
          | (show Ending.returned (.tuple #[.int .u8 (s.quotient / 2 ^ min (IntKind.u16.wrap (8 * bits .and .u16 1 1)).toNat 16 % 256), .bool true]) = _; rw [show min (IntKind.u16.wrap (8 * bits .and .u16 1 1)).toNat 16 = 8 by decide +kernel, show (2 : Int) ^ 8 = 256 by rfl, Int.emod_eq_of_lt (by omega) (by omega)])
          | (show Ending.returned (.tuple #[.int .u8 (s.product / 2 ^ min (IntKind.u16.wrap (8 * bits .and .u16 2 1)).toNat 16 % 256), .bool true]) = _; rw [show min (IntKind.u16.wrap (8 * bits .and .u16 2 1)).toNat 16 = 0 by decide +kernel, Int.pow_zero, Int.ediv_one])
          | (show Ending.returned (.tuple #[.int .u8 (s.product / 2 ^ min (IntKind.u16.wrap (8 * bits .and .u16 3 1)).toNat 16 % 256), .bool true]) = _; rw [show min (IntKind.u16.wrap (8 * bits .and .u16 3 1)).toNat 16 = 8 by decide +kernel, show (2 : Int) ^ 8 = 256 by rfl, Int.emod_eq_of_lt (by omega) (by omega)])
end
end Go.Proofs.YtniagcbajjmopaaGreat
