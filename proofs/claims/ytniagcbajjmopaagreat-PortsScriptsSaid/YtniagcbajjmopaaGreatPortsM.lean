/- Advance: at every state, clock by clock. -/
import Derived.Test.YtniagcbajjmopaaGreatPortsL
namespace Go.Proofs.YtniagcbajjmopaaGreat
open Go.RowKit
set_option linter.unusedVariables false
set_option linter.unusedSimpArgs false
set_option maxRecDepth 100000
variable {w w' : World} {g : Nat} {s : Pt}
theorem Fit.happen {s : Pt} (F : Fit s) {t sn : Int} (h0 : 0 ≤ t) (h1 : t ≤ 281474976710656) : Fit { Proofs.YtniagcbajjmopaaGreat.happen s t with soon := sn } := ⟨h0, h1, F.c0, F.c1, F.d0, F.d1, F.l0, F.l1⟩
theorem Fit.at_ {s : Pt} (F : Fit s) {t : Int} (h0 : 0 ≤ t) (h1 : t ≤ 281474976710656) : Fit { s with now := t } := ⟨h0, h1, F.c0, F.c1, F.d0, F.d1, F.l0, F.l1⟩
/-- Going on towards a time. -/
structure Going (s : Pt) (T : Int) (s' : Pt) : Prop where
  fit : Fit s'
  from_ : s.now ≤ s'.now
  upto : s'.now ≤ T
  like_ : like s' (ticks (s'.now - s.now).toNat s)
  ok : SoonOk s'
theorem like_refl (s : Pt) : like s s := rfl
theorem like.trans {a b c : Pt} (h : like a b) (k : like b c) : like a c := Eq.trans h k
theorem like.symm {a b : Pt} (h : like a b) : like b a := Eq.symm h
theorem Going.start (F : Fit s) (ok : SoonOk s) {T : Int} (h : s.now ≤ T) : Going s T s := ⟨F, Int.le_refl _, h, by rw [show (s.now - s.now).toNat = 0 by omega]; exact like_refl _, ok⟩
theorem Going.next {s s' s'' : Pt} {T : Int} (h : Going s T s') (F : Fit s'') (h1 : s'.now ≤ s''.now) (h2 : s''.now ≤ T) (hl : like s'' (ticks (s''.now - s'.now).toNat s')) (ok : SoonOk s'') : Going s T s'' := by
  refine ⟨F, Int.le_trans h.from_ h1, h2, ?_, ok⟩
  have := h.from_
  have e : (s''.now - s.now).toNat = (s'.now - s.now).toNat + (s''.now - s'.now).toNat := by omega
  rw [e, ticks_add]
  exact hl.trans (h.like_.ticks _)
theorem Going.jump {s s' : Pt} {T : Int} (h : Going s T s') (hs : T < s'.soon) (hT : T ≤ 281474976710656) : Going s T { s' with now := T } := by
  have hu := h.upto
  have hn := h.fit.n0
  refine h.next (h.fit.at_ (by omega) hT) hu (Int.le_refl _) ?_ (fun t h1 h2 => h.ok t (by show s'.now < t; have h1' : T < t := h1; omega) h2)
  show like { s' with now := T } (ticks (T - s'.now).toNat s')
  rw [ticks_quiet _ _ (fun t h1 h2 => h.ok t h1 (by omega)), show s'.now + ((T - s'.now).toNat : Int) = T by omega]
  exact like_refl _
theorem Going.step {s s' : Pt} {T at_ sn : Int} (h : Going s T s') (h1 : s'.now < at_) (h2 : at_ ≤ T) (hT : T ≤ 281474976710656) (ht : ticks (at_ - s'.now).toNat s' = happen s' at_) (hq : ∀ x, at_ < x → x < sn → quiet s' x) : Going s T { happen s' at_ with soon := sn } := by
  have hn := h.fit.n0
  refine h.next (h.fit.happen (by omega) (by omega)) (Int.le_of_lt h1) h2 ?_ (fun t k1 k2 => hq t k1 k2)
  show like { happen s' at_ with soon := sn } (ticks (at_ - s'.now).toNat s')
  rw [ht]
  exact rfl
def AdvP (W : World) (g : Nat) (s : Pt) (T : Int) (e : Ending) (w' : World) : Prop := e = .returned (.int .i64 0) ∧ ∃ s', Po w' g s' ∧ Going s T s' ∧ s'.now = T ∧ Upd W g w'
set_option maxHeartbeats 4000000 in
theorem advance_any (A : Po w g s) (F : Fit s) (ok : SoonOk s) (T : Int) (hT : s.now ≤ T) (hT1 : T ≤ 281474976710656) :
    Calls Tryz.prog 14 #[poP g, .int .i64 T] w (AdvP w g s T) := by
  have G0 := Lib.hid (Going.start F ok hT)
  have c0 : w.cell? ⟨g, 0, none⟩ = some (.int .i64 s.now) := A.cell 0
  obtain ⟨nw, hnw⟩ : ∃ nw, s.now = nw := ⟨_, rfl⟩
  have n0 := F.n0
  rw [hnw] at c0 hT n0
  have HA := Lib.hid A
  clear A F ok hnw
  go_enter Tryz.func14, Tryz.ntmps14
  go_wp2_with fail
  go_step3
  go_wp2_with fail
  go_step3
  go_wp2_with fail
  go_loopw [] (fun wr => ∃ s', Po wr g s' ∧ Going s T s' ∧ Upd w g wr) (fun wr => match wr.cell? ⟨g, 0, none⟩ with | some (.int _ x) => (T - x).toNat | _ => 0)
  case atStart => exact ⟨s, HA.out, G0.out, Upd.refl _ _⟩
  case round =>
    obtain ⟨s', a, gg, u⟩ := hrel
    have d0 : wr.cell? ⟨g, 0, none⟩ = some (.int .i64 s'.now) := a.cell 0
    have d22 : wr.cell? ⟨g, 22, none⟩ = some (.int .i64 s'.soon) := a.cell 22
    have f0 := a.frozen 0
    have hup := gg.upto
    have hn0 := gg.fit.n0
    have AA := Lib.hid a
    have GG := Lib.hid gg
    have U := Lib.hid u
    obtain ⟨nw', hnw'⟩ : ∃ nw', s'.now = nw' := ⟨_, rfl⟩
    obtain ⟨sn, hsn⟩ : ∃ sn, s'.soon = sn := ⟨_, rfl⟩
    have HN := Lib.hid hnw'
    have HS := Lib.hid hsn
    rw [hnw'] at d0 hup hn0
    rw [hsn] at d22
    clear a gg u c0 HA G0 hnw' hsn
    by_cases he : nw' = T
    · subst he
      go_wp2_with fail
      rw [Exit.noGoto_ret]
      go_ret
      exact ⟨rfl, s', AA.out, GG.out, HN.out, U.out⟩
    · have t1 : (nw' == T) = false := by simpa using he
      by_cases hs : T < sn
      · have G2 := Lib.hid (GG.out.jump (by rw [HS.out]; exact hs) hT1)
        have A2 : Hid (Po (wr.setCell ⟨g, 0, none⟩ (.int .i64 T)) g { s' with now := T }) := AA.out.set_ 0 _
        have e0 : (wr.setCell ⟨g, 0, none⟩ (.int .i64 T)).cell? ⟨g, 0, none⟩ = some (.int .i64 T) := A2.out.cell 0
        have E0 := Lib.hid e0
        clear e0
        go_wp2_with fail
        go_roundw
        case rel => exact ⟨_, A2.out, G2.out, U.out.set _ _⟩
        case measure => rw [E0.out, d0]; simp; omega
      · have hs2 : sn ≤ T := by omega
        have ST := Lib.hid (step_any AA.out GG.out.fit T (by rw [HN.out]; omega) hT1)
        go_wp2_with fail
        refine ST.out.mono ?_
        rintro e w2 ⟨rfl, at_, s2, h1, h2, a2, h3, h4, u2⟩
        have G2 := Lib.hid (GG.out.step h1 h2 hT1 h3 h4)
        have A2 := Lib.hid a2
        have U2 := Lib.hid (U.out.trans u2)
        have e0 : w2.cell? ⟨g, 0, none⟩ = some (.int .i64 at_) := a2.cell 0
        rw [HN.out] at h1
        clear a2 u2 h3 h4 ST
        go_wp2_with fail
        go_roundw
        case rel => exact ⟨_, A2.out, G2.out, U2.out⟩
        case measure => rw [e0, d0]; simp; omega
set_option maxHeartbeats 1000000 in
theorem advance_no (A : Po w g s) (T : Int) (hT : T < s.now ∨ 281474976710656 < T) :
    Calls Tryz.prog 14 #[poP g, .int .i64 T] w (Says w (.int .i64 2)) := by
  have c0 : w.cell? ⟨g, 0, none⟩ = some (.int .i64 s.now) := A.cell 0
  obtain ⟨nw, hnw⟩ : ∃ nw, s.now = nw := ⟨_, rfl⟩
  rw [hnw] at c0 hT
  clear A hnw
  by_cases h : T < nw
  · go_enter Tryz.func14, Tryz.ntmps14
    go_wp2_with fail
    go_step3
    go_wp2_with fail
    try rw [Exit.noGoto_ret]
    go_ret
    exact ⟨rfl, Below.refl _ _⟩
  · have h1 : nw ≤ T := by omega
    have h2 : 281474976710656 < T := by omega
    go_enter Tryz.func14, Tryz.ntmps14
    go_wp2_with fail
    go_step3
    go_wp2_with fail
    try rw [Exit.noGoto_ret]
    go_ret
    exact ⟨rfl, Below.refl _ _⟩
end Go.Proofs.YtniagcbajjmopaaGreat
