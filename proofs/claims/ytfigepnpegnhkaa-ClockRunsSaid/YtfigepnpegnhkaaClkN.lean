/- Set, Normalise, At, Scale. -/
import Derived.Test.YtfigepnpegnhkaaClkM
namespace Go.Proofs.Ytfigepnpegnhkaa
open Go.RowKit
set_option linter.unusedVariables false
set_option linter.unusedSimpArgs false
set_option maxRecDepth 100000
def maxT : Int := 1152921504606846976
/-- What Set says of numbers. -/
def setC (n m : Nat) (f : Nat → Int) (c : Int) : Prop :=
  (c = 2 ∧ (m ≠ n ∨ ∃ j, j < n ∧ f j < 0)) ∨ (c = 4 ∧ m = n ∧ (∀ j, j < n → 0 ≤ f j) ∧ ∃ j, j < n ∧ 1152921504606846976 < f j)
def setOk (n m : Nat) (f : Nat → Int) : Prop := m = n ∧ ∀ j, j < n → 0 ≤ f j ∧ f j ≤ 1152921504606846976
def SetP (W : World) (g b cap n : Nat) (S : Nat → Int) (m : Nat) (f : Nat → Int) (e : Ending) (w' : World) : Prop :=
  (∃ c : Int, setC n m f c ∧ e = .returned (.int .i64 c) ∧ Below W.heap.size W w') ∨ (setOk n m f ∧ e = .returned (.int .i64 0) ∧ Ck w' g b cap n S f ∧ Upd W b w')
theorem Ck.same {w : World} {g b cap n : Nat} {S T T' : Nat → Int} (h : Ck w g b cap n S T) (e : ∀ j, j < n → T j = T' j) : Ck w g b cap n S T' :=
  ⟨h.hd, h.ne, h.arr.congr fun j hj => by
    unfold rowC
    split
    · rfl
    · exact e _ (by omega)⟩
section
variable {w w' : World} {g b cap n : Nat} {S T : Nat → Int}
set_option maxHeartbeats 4000000 in
theorem set_any (C : Ck w g b cap n S T) (h1 : 1 ≤ n) (hn : n ≤ 16) (v : Value) (m : Nat) (f : Nat → Int) (Sv : Sees w .i64 v m f) (hm : m ≤ 17592186044416) (hb : ∀ ao c, v = .slice (some ao) m c → ao.block ≠ b) :
    Calls Try.prog 11 #[.pointer (some ⟨g, 0, none⟩), v] w (SetP w g b cap n S m f) := by
  have h0 := C.hd
  have CK := Lib.hid C
  have SS := Lib.hid Sv
  by_cases hmn : m = n
  · subst hmn
    obtain ⟨p, hp⟩ : ∃ p, m = p + 1 := ⟨m - 1, by omega⟩
    have MI := Lib.hid (fun w' S' => min_any v p f w' S' (by omega))
    have MA := Lib.hid (fun w' S' => max_any v p f w' S' (by omega))
    rw [← hp] at MI MA
    obtain ⟨ao, c, rfl, hs⟩ := Sv
    obtain ⟨bs, off, rfl, hc⟩ := hs.resolve_left (by omega)
    have HC := Lib.hid hc
    have HBN := Lib.hid (hb _ _ rfl)
    have MN := Lib.hid (And.intro (minF_at f p) (minF_le f p))
    have MX := Lib.hid (And.intro (maxF_at f p) (le_maxF f p))
    obtain ⟨x, hx⟩ : ∃ x, minF f p = x := ⟨_, rfl⟩
    obtain ⟨y, hy⟩ : ∃ y, maxF f p = y := ⟨_, rfl⟩
    rw [hx] at MI MN
    rw [hy] at MA MX
    have HP := Lib.hid hp
    have zb : ((m : Int) != m) = false := by simp
    clear hs hc hb C hx hy hp
    by_cases c1 : x < 0
    · have q2 : decide (x < 0) = true := decide_eq_true c1
      have BAD : Hid (setC m m f 2) := Lib.hid (by
        obtain ⟨j, hj, e⟩ := MN.out.1
        have := HP.out
        exact Or.inl ⟨rfl, Or.inr ⟨j, by omega, by omega⟩⟩)
      go_enter Try.func11, Try.ntmps11
      go_wp2_with fail
      refine (MI.out _ SS.out).mono ?_
      rintro e w1 ⟨rfl, b1⟩
      have B1 := Lib.hid b1
      clear b1
      go_wp2_with fail
      go_ret
      exact Or.inl ⟨2, BAD.out, rfl, B1.out⟩
    · have q2 : decide (x < 0) = false := decide_eq_false c1
      by_cases c2 : 1152921504606846976 < y
      · have q3 : decide (1152921504606846976 < y) = true := decide_eq_true c2
        have BAD : Hid (setC m m f 4) := Lib.hid (by
          obtain ⟨j, hj, e⟩ := MX.out.1
          have := HP.out
          exact Or.inr ⟨rfl, rfl, fun j hj => by have := MN.out.2 j (by omega); omega, ⟨j, by omega, by omega⟩⟩)
        go_enter Try.func11, Try.ntmps11
        go_wp2_with fail
        refine (MI.out _ SS.out).mono ?_
        rintro e w1 ⟨rfl, b1⟩
        have B1 := Lib.hid b1
        have S1 := Lib.hid (SS.out.kept b1)
        clear b1
        go_wp2_with fail
        refine (MA.out _ S1.out).mono ?_
        rintro e w2 ⟨rfl, b2⟩
        have B2 := Lib.hid (B1.out.trans (b2.mono B1.out.size))
        clear b2
        go_wp2_with fail
        go_ret
        exact Or.inl ⟨4, BAD.out, rfl, B2.out⟩
      · have q3 : decide (1152921504606846976 < y) = false := decide_eq_false c2
        have GOOD : Hid (setOk m m f) := Lib.hid ⟨rfl, fun j hj => by
          have := HP.out
          have a := MN.out.2 j (by omega)
          have b := MX.out.2 j (by omega)
          omega⟩
        have bl : bs < w.heap.size := World.block_lt_of_cell? _ _ (HC.out 0 (by omega))
        go_enter Try.func11, Try.ntmps11
        go_wp2_with fail
        refine (MI.out _ SS.out).mono ?_
        rintro e w1 ⟨rfl, b1⟩
        have B1 := Lib.hid b1
        have S1 := Lib.hid (SS.out.kept b1)
        clear b1
        go_wp2_with fail
        refine (MA.out _ S1.out).mono ?_
        rintro e w2 ⟨rfl, b2⟩
        have B2 := Lib.hid (B1.out.trans (b2.mono B1.out.size))
        have C2 := Lib.hid (CK.out.kept B2.out)
        clear b2 B1 S1 MI MA h0
        go_wp2_with fail
        go_loopw [5, 6, 30] (fun _ _ i wr => ∃ k : Nat, k ≤ m ∧ i = .int .i64 k ∧ Ck wr g b cap m S (fun j => if j < k then f j else T j) ∧ Upd w b wr) (fun _ _ i _ => m - (intOf i).toNat)
        case atStart => exact ⟨0, by omega, rfl, C2.out.same (fun j _ => by rw [if_neg (by omega)]), Upd.ofBelow B2.out b⟩
        case round =>
          obtain ⟨k, hk, rfl, ck, u⟩ := hrel
          have C3 := Lib.hid ck
          have U3 := Lib.hid u
          clear ck u C2 B2
          by_cases hlt : k < m
          · have hz : (k : Int) < m := by omega
            have k1 : wr.cell? ⟨bs, off + k, none⟩ = some (.int .i64 (f k)) := by rw [← HC.out k hlt]; exact U3.out.cell (p := ⟨bs, off + k, none⟩) bl HBN.out
            have k0 := C3.out.hd
            have k2 := C3.out.tm hlt
            have k3 := C3.out.fr (k * 2 + 1)
            try simp only at k2
            rw [if_neg (by omega)] at k2
            have NC := Lib.hid ((C3.out.set hlt (f k)).same (T' := fun j => if j < k + 1 then f j else T j) (fun j hj => by
              by_cases e : j = k
              · rw [if_pos e, if_pos (by omega), e]
              · rw [if_neg e]
                by_cases e2 : j < k
                · rw [if_pos e2, if_pos (by omega)]
                · rw [if_neg e2, if_neg (by omega)]))
            obtain ⟨z, hz'⟩ : ∃ z, f k = z := ⟨_, rfl⟩
            rw [hz'] at k1 NC
            clear hz'
            go_wp2_with fail
            go_roundw
            case rel => exact ⟨k + 1, by omega, by go_num, NC.out, U3.out.set _ _⟩
            case measure => simp [intOf]; omega
          · have hkm : k = m := by omega
            subst hkm
            go_wp2_with fail
            go_ret
            exact Or.inr ⟨GOOD.out, rfl, C3.out.same (fun j hj => by rw [if_pos hj]), U3.out⟩
  · obtain ⟨ao, c, rfl, hs⟩ := Sv
    have zb : ((m : Int) != n) = true := by simp; omega
    have zb2 : ((m : Int) == n) = false := by rw [beq_eq_false_iff_ne]; omega
    have HMN := Lib.hid hmn
    have hn2 : n ≤ 16 := hn
    clear hs hb C hmn
    go_enter Try.func11, Try.ntmps11
    go_wp2_with fail
    go_ret
    exact Or.inl ⟨2, Or.inl ⟨rfl, Or.inl HMN.out⟩, rfl, Below.refl _ _⟩
/-- What Normalise says and leaves. -/
def NorP (W : World) (g b cap n : Nat) (S T : Nat → Int) (e : Ending) (w' : World) : Prop :=
  ∃ l, (∃ j, j < n ∧ T j = l) ∧ (∀ j, j < n → l ≤ T j) ∧ e = .returned (.int .i64 l) ∧ Ck w' g b cap n S (fun j => T j - l) ∧ Upd W b w'
set_option maxHeartbeats 4000000 in
theorem norm_any (C : Ck w g b cap n S T) (h1 : 1 ≤ n) (hn : n ≤ 16) (tm : ∀ j, j < n → 0 ≤ T j ∧ T j ≤ 1152921504606846976) : Calls Try.prog 20 #[.pointer (some ⟨g, 0, none⟩)] w (NorP w g b cap n S T) := by
  have TI := Lib.hid (times_any C h1 hn)
  have CK := Lib.hid C
  obtain ⟨p, hp⟩ : ∃ p, n = p + 1 := ⟨n - 1, by omega⟩
  have MI := Lib.hid (fun w' v S' => min_any v p T w' S' (by omega))
  rw [← hp] at MI
  have MN : Hid ((∃ j, j < n ∧ T j = minF T p) ∧ ∀ j, j < n → minF T p ≤ T j) := Lib.hid ⟨by
    obtain ⟨j, hj, e⟩ := minF_at T p
    exact ⟨j, by omega, e.symm⟩, fun j hj => minF_le T p j (by omega)⟩
  obtain ⟨l, hl⟩ : ∃ l, minF T p = l := ⟨_, rfl⟩
  rw [hl] at MI MN
  have TM := Lib.hid tm
  have hl0 : 0 ≤ l ∧ l ≤ 1152921504606846976 := by
    obtain ⟨j, hj, e⟩ := MN.out.1
    have := tm j hj
    omega
  obtain ⟨l0, l1⟩ := hl0
  clear C hl hp tm
  go_enter Try.func20, Try.ntmps20
  go_wp2_with fail
  refine TI.out.mono ?_
  rintro e w1 ⟨gt, ct, rfl, hgt, at_, b1⟩
  have B1 := Lib.hid b1
  have AT := Lib.hid at_
  clear b1 at_ TI
  go_wp2_with fail
  refine (MI.out _ _ AT.out.sees).mono ?_
  rintro e w2 ⟨rfl, b2⟩
  have B2 := Lib.hid (B1.out.trans (b2.mono B1.out.size))
  have C2 := Lib.hid (CK.out.kept B2.out)
  have h0 := C2.out.hd
  clear b2 B1 MI AT CK
  go_wp2_with fail
  go_loopw [4, 15] (fun _ i wr => ∃ k : Nat, k ≤ n ∧ i = .int .i64 k ∧ Ck wr g b cap n S (fun j => if j < k then T j - l else T j) ∧ Upd w b wr) (fun _ i _ => n - (intOf i).toNat)
  case atStart => exact ⟨0, by omega, rfl, C2.out.same (fun j _ => by rw [if_neg (by omega)]), Upd.ofBelow B2.out b⟩
  case round =>
    obtain ⟨k, hk, rfl, ck, u⟩ := hrel
    have C3 := Lib.hid ck
    have U3 := Lib.hid u
    clear ck u C2 B2 h0
    by_cases hlt : k < n
    · have hz : (k : Int) < n := by omega
      have k0 := C3.out.hd
      have k2 := C3.out.tm hlt
      have k3 := C3.out.fr (k * 2 + 1)
      try simp only at k2
      rw [if_neg (by omega)] at k2
      have NC := Lib.hid ((C3.out.set hlt (T k - l)).same (T' := fun j => if j < k + 1 then T j - l else T j) (fun j hj => by
        by_cases e : j = k
        · rw [if_pos e, if_pos (by omega), e]
        · rw [if_neg e]
          by_cases e2 : j < k
          · rw [if_pos e2, if_pos (by omega)]
          · rw [if_neg e2, if_neg (by omega)]))
      obtain ⟨t0, t1⟩ := TM.out k hlt
      obtain ⟨z, hz'⟩ : ∃ z, T k = z := ⟨_, rfl⟩
      rw [hz'] at k2 NC t0 t1
      have wz : IntKind.i64.wrap (z - l) = z - l := by rw [IntKind.wrap_i64]; omega
      clear hz'
      go_wp2_with fail
      go_roundw
      case rel => exact ⟨k + 1, by omega, by go_num, NC.out, U3.out.set _ _⟩
      case measure => simp [intOf]; omega
    · have hkm : k = n := by omega
      subst hkm
      go_wp2_with fail
      go_ret
      exact ⟨l, MN.out.1, MN.out.2, rfl, C3.out.same (fun j hj => by rw [if_pos hj]), U3.out⟩
end
end Go.Proofs.Ytfigepnpegnhkaa
