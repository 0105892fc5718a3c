/- A whole move, in plain words. No program. -/
import Derived.Test.YtkeikkkcmackeaaDmaD
namespace Go.Proofs.Ytkeikkkcmackeaa
set_option linter.unusedVariables false
set_option linter.unusedSimpArgs false

def stepAt (m : Int) : Int := if m / 8 % 4 = 0 then 1 else if m / 8 % 4 = 2 then -1 else 0
/-- Channel c has moved k of n bytes. -/
structure Mv (c : Nat) (m tp bank at_ : Int) (n k : Nat) (f : Nat → Int) : Prop where
  r : Rng f
  hm : f (c * 12) = m
  htp : f (c * 12 + 1) = tp
  hbank : f (c * 12 + 4) = bank
  hat : wordOf f (c * 12 + 2) = (at_ + k * stepAt m) % 65536
  count : wordOf f (c * 12 + 5) = ((n : Int) - k) % 65536
  moved : k < n → f 97 = (k : Int) % 4
  moves : f 96 = if k < n then bitOf c else 0
  way : f 101 = 0
theorem put1_at (f : Nat → Int) (i j : Nat) (x : Int) : put1 f i x j = if j = i then x else f j := rfl
theorem put1_ne {f : Nat → Int} {i j : Nat} {x : Int} (h : j ≠ i) : put1 f i x j = f j := if_neg h
theorem put2_ne {f : Nat → Int} {i j : Nat} {x : Int} (h : j ≠ i) (h2 : j ≠ i + 1) : put2 f i x j = f j := by
  unfold put2; rw [put1_ne h2, put1_ne h]
theorem word_put2 {f : Nat → Int} {i : Nat} {x : Int} : wordOf (put2 f i x) i = x := by
  unfold wordOf put2
  rw [put1_ne (show i ≠ i + 1 by omega), put1_at, put1_at, if_pos rfl, if_pos rfl]
  omega
theorem word_ne {f : Nat → Int} {i j : Nat} {x : Int} (h1 : j ≠ i) (h2 : j ≠ i + 1) (h3 : j + 1 ≠ i) : wordOf (put2 f i x) j = wordOf f j := by
  unfold wordOf; rw [put2_ne h1 h2, put2_ne h3 (by omega)]
theorem word_put1 {f : Nat → Int} {i j : Nat} {x : Int} (h1 : j ≠ i) (h3 : j + 1 ≠ i) : wordOf (put1 f i x) j = wordOf f j := by
  unfold wordOf; rw [put1_ne h1, put1_ne h3]
theorem mvA_ne {o j : Nat} {f : Nat → Int} (h : j ≠ o + 2) (h2 : j ≠ o + 3) : mvA o f j = f j := by
  unfold mvA
  split
  · exact put2_ne h h2
  · split
    · exact put2_ne h h2
    · rfl
theorem mvA_word (o : Nat) (f : Nat → Int) (x : Int) (h : wordOf f (o + 2) = x % 65536) : wordOf (mvA o f) (o + 2) = (x + stepAt (f o)) % 65536 := by
  unfold mvA stepAt
  split
  · rw [word_put2, h]; omega
  · split
    · rw [word_put2, h]; omega
    · rw [h]; omega
theorem mvA_word5 (o : Nat) (f : Nat → Int) : wordOf (mvA o f) (o + 5) = wordOf f (o + 5) := by
  unfold wordOf; rw [mvA_ne (by omega) (by omega), mvA_ne (by omega) (by omega)]
theorem bit_rng (c : Nat) (hc : c < 8) : 0 ≤ bitOf c ∧ bitOf c ≤ 255 ∧ First (bitOf c) c ∧ bits .andNot .u8 (bitOf c) (bitOf c) = 0 := by
  have h : ∀ c : Fin 8, 0 ≤ bitOf c.val ∧ bitOf c.val ≤ 255 ∧ (1 ≤ bitOf c.val ∧ bitOf c.val ≤ 255 ∧ Lib.ntz8 (bitOf c.val) = (c.val : Int)) ∧ bits .andNot .u8 (bitOf c.val) (bitOf c.val) = 0 := by decide +kernel
  exact h ⟨c, hc⟩
theorem Mv.step {c : Nat} {m tp bank at_ : Int} {n k : Nat} {f : Nat → Int} (hc : c < 8) (hn : n ≤ 65536) (h : Mv c m tp bank at_ n k f) (hk : k < n) : Mv c m tp bank at_ n (k + 1) (doneM c f) := by
  obtain ⟨r, hm, hto, hb, ha, hcn, hmd, hmv, hw⟩ := h
  have RA : Rng (mvA (c * 12) f) := mvA_rng r
  have RB : Rng (mvB (c * 12) (mvA (c * 12) f)) := mvB_rng RA
  have RC : Rng (mvC (mvB (c * 12) (mvA (c * 12) f))) := mvC_rng RB
  obtain ⟨b0, b1, bf, ba⟩ := bit_rng c hc
  obtain ⟨fa, efa⟩ : ∃ fa, mvA (c * 12) f = fa := ⟨_, rfl⟩
  have neA : ∀ j, j ≠ c * 12 + 2 → j ≠ c * 12 + 3 → fa j = f j := fun j h1 h2 => by rw [← efa]; exact mvA_ne h1 h2
  have wA : wordOf fa (c * 12 + 2) = (at_ + k * stepAt m + stepAt m) % 65536 := by rw [← efa, mvA_word _ _ _ ha, hm]
  have wA5 : wordOf fa (c * 12 + 5) = ((n : Int) - k) % 65536 := by rw [← efa, mvA_word5, hcn]
  rw [efa] at RA RB RC
  have eb : mvB (c * 12) fa = put2 fa (c * 12 + 5) (((n : Int) - k - 1) % 65536) := by unfold mvB; rw [wA5]; congr 1; omega
  obtain ⟨fb, efb⟩ : ∃ fb, mvB (c * 12) fa = fb := ⟨_, rfl⟩
  rw [efb] at RB RC eb
  have neB : ∀ j, j ≠ c * 12 + 5 → j ≠ c * 12 + 6 → fb j = fa j := fun j h1 h2 => by rw [eb]; exact put2_ne h1 h2
  have wB : wordOf fb (c * 12 + 2) = wordOf fa (c * 12 + 2) := by rw [eb]; exact word_ne (by omega) (by omega) (by omega)
  have wB5 : wordOf fb (c * 12 + 5) = ((n : Int) - k - 1) % 65536 := by rw [eb]; exact word_put2
  have e97 : fb 97 = (k : Int) % 4 := by rw [neB 97 (by omega) (by omega), neA 97 (by omega) (by omega)]; exact hmd hk
  have ec : mvC fb = put1 fb 97 (((k : Int) % 4 + 1) % 4) := by unfold mvC; rw [e97]
  obtain ⟨fc, efc⟩ : ∃ fc, mvC fb = fc := ⟨_, rfl⟩
  rw [efc] at RC ec
  have neC : ∀ j, j ≠ 97 → fc j = fb j := fun j h1 => by rw [ec]; exact put1_ne h1
  have wC : wordOf fc (c * 12 + 2) = (at_ + k * stepAt m + stepAt m) % 65536 := by rw [ec, word_put1 (by omega) (by omega), wB, wA]
  have wC5 : wordOf fc (c * 12 + 5) = ((n : Int) - k - 1) % 65536 := by rw [ec, word_put1 (by omega) (by omega), wB5]
  have c97 : fc 97 = ((k : Int) % 4 + 1) % 4 := by rw [ec, put1_at, if_pos rfl]
  have c96 : fc 96 = bitOf c := by rw [neC 96 (by omega), neB 96 (by omega) (by omega), neA 96 (by omega) (by omega), hmv, if_pos hk]
  have same : ∀ j, j ≠ 97 → j ≠ c * 12 + 2 → j ≠ c * 12 + 3 → j ≠ c * 12 + 5 → j ≠ c * 12 + 6 → fc j = f j := fun j h1 h2 h3 h4 h5 => by rw [neC j h1, neB j h4 h5, neA j h2 h3]
  have hsum : at_ + ((k + 1 : Nat) : Int) * stepAt m = at_ + k * stepAt m + stepAt m := by
    rw [Int.natCast_add, Int.add_mul]; simp; omega
  have hd : doneM c f = mvD c fc := by unfold doneM; rw [efa, efb, efc]
  rw [hd]
  unfold mvD
  by_cases hz : wordOf fc (c * 12 + 5) = 0
  · rw [if_pos hz]
    have hkn : k + 1 = n := by rw [wC5] at hz; omega
    refine ⟨(RC.put1 _ (by rw [c96, ba]; omega) (by rw [c96, ba]; omega)).put1 _ (by omega) (by omega), ?_, ?_, ?_, ?_, ?_, fun h => absurd h (by omega), ?_, ?_⟩
    · rw [put1_ne (by omega), put1_ne (by omega), same _ (by omega) (by omega) (by omega) (by omega) (by omega), hm]
    · rw [put1_ne (by omega), put1_ne (by omega), same _ (by omega) (by omega) (by omega) (by omega) (by omega), hto]
    · rw [put1_ne (by omega), put1_ne (by omega), same _ (by omega) (by omega) (by omega) (by omega) (by omega), hb]
    · rw [word_put1 (by omega) (by omega), word_put1 (by omega) (by omega), wC, hsum]
    · rw [word_put1 (by omega) (by omega), word_put1 (by omega) (by omega), wC5]; congr 1; omega
    · rw [put1_ne (by omega), put1_at, if_pos rfl, c96, ba, if_neg (by omega)]
    · rw [put1_ne (by omega), put1_ne (by omega), same _ (by omega) (by omega) (by omega) (by omega) (by omega), hw]
  · rw [if_neg hz]
    have hkn : k + 1 < n := by rw [wC5] at hz; omega
    refine ⟨RC, ?_, ?_, ?_, ?_, ?_, fun h => ?_, ?_, ?_⟩
    · rw [same _ (by omega) (by omega) (by omega) (by omega) (by omega), hm]
    · rw [same _ (by omega) (by omega) (by omega) (by omega) (by omega), hto]
    · rw [same _ (by omega) (by omega) (by omega) (by omega) (by omega), hb]
    · rw [wC, hsum]
    · rw [wC5]; congr 1; omega
    · rw [c97]; omega
    · rw [c96, if_pos hkn]
    · rw [same _ (by omega) (by omega) (by omega) (by omega) (by omega), hw]
/-- The transfer that is next. -/
theorem Mv.next {c : Nat} {m tp bank at_ : Int} {n k : Nat} {f : Nat → Int} (h : Mv c m tp bank at_ n k f) (hk : k < n) :
    trV (kindOf (f (c * 12))) (liesOf f (c * 12 + 4) (c * 12 + 2)) ((f (c * 12 + 1) + patOf (f (c * 12)) (f 97)) % 256) = trV (kindOf m) (bank * 65536 + (at_ + k * stepAt m) % 65536) ((tp + patOf m k) % 256) := by
  have e : patOf m ((k : Int) % 4) = patOf m k := by
    unfold patOf
    have h1 : (k : Int) % 4 % 2 = (k : Int) % 2 := by omega
    have h2 : (k : Int) % 4 / 2 % 2 = (k : Int) / 2 % 2 := by omega
    have h3 : (k : Int) % 4 % 4 = (k : Int) % 4 := by omega
    rw [h1, h2, h3]
  unfold liesOf
  rw [h.hm, h.htp, h.hbank, h.hat, h.moved hk, e]
theorem Mv.over {c : Nat} {m tp bank at_ : Int} {n : Nat} {f : Nat → Int} (h : Mv c m tp bank at_ n n f) : f 96 = 0 ∧ f (c * 12 + 5) = 0 ∧ f (c * 12 + 6) = 0 := by
  have hc := h.count
  have h1 := h.r (c * 12 + 5)
  have h2 := h.r (c * 12 + 6)
  unfold wordOf at hc
  rw [show c * 12 + 5 + 1 = c * 12 + 6 by omega] at hc
  refine ⟨by rw [h.moves, if_neg (by omega)], by omega, by omega⟩
end Go.Proofs.Ytkeikkkcmackeaa
