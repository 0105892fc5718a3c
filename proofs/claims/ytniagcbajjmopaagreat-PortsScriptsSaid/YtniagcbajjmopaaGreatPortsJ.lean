/- The unit's time, in plain words: clock by clock, and in steps. -/
import Derived.Test.YtniagcbajjmopaaGreatPortsA
namespace Go.Proofs.YtniagcbajjmopaaGreat
set_option linter.unusedVariables false
set_option linter.unusedSimpArgs false

def lineT (t : Int) : Int := t % 357368 / 1364
def behind (o : Bool) : Int := if o then 240 else 225
/-- Is the beam at a clock of a line (of each line, if that is below 0)? -/
def hits (line h t : Int) : Bool := decide ((line < 0 ∨ lineT t = line) ∧ t % 1364 = h)
def irqL (s : Pt) : Int := if s.control / 32 % 2 = 1 then s.line else -1
def irqH (s : Pt) : Int := if s.control / 16 % 2 = 1 then 4 * s.dot else 0
def wants (s : Pt) : Bool := decide (s.control / 16 % 2 = 1 ∨ s.control / 32 % 2 = 1)
def evB (s : Pt) (t : Int) : Bool := hits (behind s.over) 0 t
def evT (t : Int) : Bool := hits 0 0 t
def evA (s : Pt) (t : Int) : Bool := hits (behind s.over) 130 t
def evI (s : Pt) (t : Int) : Bool := wants s && hits (irqL s) (irqH s) t
/-- What happens at a time. -/
def happen (s : Pt) (t : Int) : Pt :=
  { s with now := t, flagged := if evT t then false else (s.flagged || evB s t), come := s.come || (evB s t && decide (s.control / 128 % 2 = 1)),
           auto0 := if evA s t && decide (s.control % 2 = 1) then s.say0 else s.auto0, auto1 := if evA s t && decide (s.control % 2 = 1) then s.say1 else s.auto1,
           busy := if evA s t && decide (s.control % 2 = 1) then t + 4224 else s.busy, irq := s.irq || evI s t }
def tick (s : Pt) : Pt := happen s (s.now + 1)
def ticks : Nat → Pt → Pt
  | 0, s => s
  | n + 1, s => ticks n (tick s)
theorem ticks_add (a b : Nat) (s : Pt) : ticks (a + b) s = ticks b (ticks a s) := by
  induction a generalizing s with
  | zero => simp [ticks]
  | succ a ih => rw [Nat.succ_add]; exact ih (tick s)
theorem tick_now (s : Pt) : (tick s).now = s.now + 1 := rfl
theorem ticks_now (n : Nat) (s : Pt) : (ticks n s).now = s.now + n := by
  induction n generalizing s with
  | zero => simp [ticks]
  | succ n ih => show (ticks n (tick s)).now = _; rw [ih, tick_now]; omega
def quiet (s : Pt) (t : Int) : Prop := evB s t = false ∧ evT t = false ∧ evA s t = false ∧ evI s t = false
theorem happen_quiet {s : Pt} {t : Int} (h : quiet s t) : happen s t = { s with now := t } := by
  obtain ⟨h1, h2, h3, h4⟩ := h
  unfold happen
  rw [h1, h2, h3, h4]
  simp
theorem ticks_quiet (n : Nat) (s : Pt) (h : ∀ t, s.now < t → t ≤ s.now + n → quiet s t) : ticks n s = { s with now := s.now + n } := by
  induction n generalizing s with
  | zero => simp [ticks]
  | succ n ih =>
    have e : tick s = { s with now := s.now + 1 } := happen_quiet (h _ (by omega) (by omega))
    show ticks n (tick s) = _
    rw [e, ih]
    · show { s with now := s.now + 1 + n } = { s with now := s.now + ((n + 1 : Nat) : Int) }
      congr 1; omega
    · intro t h1 h2
      exact h t (by show s.now < t; have : s.now + 1 < t := h1; omega) (by have : t ≤ s.now + 1 + n := h2; omega)
/-- Quiet clocks, then one at which something may happen. -/
theorem ticks_step (s : Pt) (at_ : Int) (h0 : s.now < at_) (h : ∀ t, s.now < t → t < at_ → quiet s t) : ticks (at_ - s.now).toNat s = happen s at_ := by
  obtain ⟨n, hn⟩ : ∃ n : Nat, at_ = s.now + n + 1 := ⟨(at_ - s.now - 1).toNat, by omega⟩
  have e : (at_ - s.now).toNat = n + 1 := by omega
  rw [e, ticks_add n 1, ticks_quiet n s (fun t a b => h t a (by omega))]
  show happen { s with now := s.now + n } (s.now + n + 1) = happen s at_
  rw [hn]; rfl

/-- When it is there next. -/
def untilIs (t line h d : Int) : Prop := 1 ≤ d ∧ (line < 0 → d ≤ 1364 ∧ (t + d) % 1364 = h) ∧ (0 ≤ line → d ≤ 357368 ∧ (t + d) % 357368 = h + line * 1364)
def lineOk (line h : Int) : Prop := 0 ≤ h ∧ h < 1364 ∧ line < 262
/-- The next time at which it is there (behind 'T', if it never is). -/
def NextIs (now T line h n : Int) : Prop := (lineOk line h ∧ untilIs now line h (n - now)) ∨ (¬ lineOk line h ∧ 0 ≤ h ∧ n = T + 1)
theorem hits_line {line h t : Int} (ok : lineOk line h) (hl : 0 ≤ line) : hits line h t = true ↔ t % 357368 = h + line * 1364 := by
  obtain ⟨h0, h1, h2⟩ := ok
  unfold hits lineT
  rw [decide_eq_true_iff]
  constructor
  · rintro ⟨a, b⟩; omega
  · intro e; constructor
    · right; omega
    · omega
theorem hits_any {line h t : Int} (hl : line < 0) : hits line h t = true ↔ t % 1364 = h := by
  unfold hits
  rw [decide_eq_true_iff]
  constructor
  · rintro ⟨_, b⟩; exact b
  · intro e; exact ⟨Or.inl hl, e⟩
theorem NextIs.after {now T line h n : Int} (k : NextIs now T line h n) (ht : now < T) : now < n := by
  rcases k with ⟨_, u⟩ | ⟨_, _, e⟩
  · have := u.1; omega
  · omega
theorem NextIs.before {now T line h n t : Int} (k : NextIs now T line h n) (h1 : now < t) (h2 : t < n) (h0 : 0 ≤ now) : hits line h t = false := by
  rw [Bool.eq_false_iff]
  intro hh
  rcases k with ⟨ok, u1, u2, u3⟩ | ⟨no, h0', e⟩
  · rcases Int.lt_or_le line 0 with hl | hl
    · have := (hits_any hl).mp hh
      have := u2 hl
      omega
    · have := (hits_line ok hl).mp hh
      have := u3 hl
      omega
  · apply no
    unfold hits lineT at hh
    rw [decide_eq_true_iff] at hh
    refine ⟨h0', ?_, ?_⟩ <;> omega
theorem NextIs.at_ {now T line h n : Int} (k : NextIs now T line h n) (hn : n ≤ T) : hits line h n = true := by
  rcases k with ⟨ok, u1, u2, u3⟩ | ⟨no, h0', e⟩
  · rcases Int.lt_or_le line 0 with hl | hl
    · rw [hits_any hl]
      have := u2 hl
      rw [show now + (n - now) = n by omega] at this
      exact this.2
    · rw [hits_line ok hl]
      have := u3 hl
      rw [show now + (n - now) = n by omega] at this
      exact this.2
  · omega
theorem NextIs.never {now T line h n t : Int} (k : NextIs now T line h n) (hn : T < n) (no : ¬ lineOk line h) : hits line h t = false := by
  rw [Bool.eq_false_iff]
  intro hh
  rcases k with ⟨ok, _⟩ | ⟨_, h0', e⟩
  · exact no ok
  · apply no
    unfold hits lineT at hh
    rw [decide_eq_true_iff] at hh
    refine ⟨h0', ?_, ?_⟩ <;> omega
theorem NextIs.iff {now T line h n t : Int} (k : NextIs now T line h n) (h0 : 0 ≤ now) (h1 : now < t) (h2 : t ≤ n) (h3 : t ≤ T) : hits line h t = decide (t = n) := by
  by_cases e : t = n
  · subst e; rw [k.at_ h3]; simp
  · rw [k.before h1 (by omega) h0]; simp [e]

/-- What the next times say. -/
def soonOf (s : Pt) (T b t a i : Int) : Int := if i ≤ T ∨ wants s = true then min (min (min b t) a) i else min (min b t) a
def atOf (T b t a i : Int) : Int := min (min (min (min T b) t) a) i
structure Nexts (s : Pt) (T b t a i : Int) : Prop where
  b : NextIs s.now T (behind s.over) 0 b
  t : NextIs s.now T 0 0 t
  a : NextIs s.now T (behind s.over) 130 a
  i : if wants s = true then NextIs s.now T (irqL s) (irqH s) i else i = T + 1
/-- Nothing happens ahead of the time that is noted. -/
def SoonOk (s : Pt) : Prop := ∀ t, s.now < t → t < s.soon → quiet s t
theorem behind_ok (o : Bool) {h : Int} (h0 : 0 ≤ h) (h1 : h < 1364) : lineOk (behind o) h := by
  unfold lineOk behind; cases o <;> simp <;> omega
theorem behind_pos (o : Bool) : 0 ≤ behind o := by unfold behind; cases o <;> simp
section
variable {s : Pt} {T b t a i : Int}
theorem Nexts.lt (N : Nexts s T b t a i) (ht : s.now < T) : s.now < b ∧ s.now < t ∧ s.now < a ∧ s.now < i := by
  refine ⟨N.b.after ht, N.t.after ht, N.a.after ht, ?_⟩
  have := N.i
  split at this
  · exact this.after ht
  · omega
/-- A step: clock by clock. -/
theorem Nexts.step (N : Nexts s T b t a i) (h0 : 0 ≤ s.now) (ht : s.now < T) :
    s.now < atOf T b t a i ∧ atOf T b t a i ≤ T ∧ ticks (atOf T b t a i - s.now).toNat s = happen s (atOf T b t a i) ∧
    evB s (atOf T b t a i) = decide (atOf T b t a i = b) ∧ evT (atOf T b t a i) = decide (atOf T b t a i = t) ∧ evA s (atOf T b t a i) = decide (atOf T b t a i = a) ∧ evI s (atOf T b t a i) = decide (atOf T b t a i = i) ∧
    ∀ x, atOf T b t a i < x → x < soonOf s T b t a i → quiet s x := by
  obtain ⟨l1, l2, l3, l4⟩ := N.lt ht
  have m0 : s.now < atOf T b t a i := by unfold atOf; omega
  have m1 : atOf T b t a i ≤ T := by unfold atOf; omega
  have m2 : atOf T b t a i ≤ b := by unfold atOf; omega
  have m3 : atOf T b t a i ≤ t := by unfold atOf; omega
  have m4 : atOf T b t a i ≤ a := by unfold atOf; omega
  have m5 : atOf T b t a i ≤ i := by unfold atOf; omega
  have m6 : soonOf s T b t a i ≤ b ∧ soonOf s T b t a i ≤ t ∧ soonOf s T b t a i ≤ a ∧ (wants s = true → soonOf s T b t a i ≤ i) := by
    unfold soonOf
    refine ⟨?_, ?_, ?_, fun h => ?_⟩
    · split <;> omega
    · split <;> omega
    · split <;> omega
    · rw [if_pos (Or.inr h)]; omega
  obtain ⟨at_, hat⟩ : ∃ x, atOf T b t a i = x := ⟨_, rfl⟩
  rw [hat] at m0 m1 m2 m3 m4 m5 ⊢
  have qt : ∀ x, s.now < x → x < b → x < t → x < a → (wants s = true → x < i) → quiet s x := by
    intro x x0 x1 x2 x3 x4
    refine ⟨N.b.before x0 x1 h0, N.t.before x0 x2 h0, N.a.before x0 x3 h0, ?_⟩
    unfold evI
    by_cases hw : wants s = true
    · have := N.i
      rw [if_pos hw] at this
      rw [hw, this.before x0 (x4 hw) h0]; rfl
    · rw [Bool.not_eq_true] at hw
      rw [hw]; rfl
  refine ⟨m0, m1, ticks_step s at_ m0 (fun x x0 x1 => qt x x0 (by omega) (by omega) (by omega) (fun _ => by omega)), N.b.iff h0 m0 m2 m1, N.t.iff h0 m0 m3 m1, N.a.iff h0 m0 m4 m1, ?_, fun x x0 x1 => qt x (by omega) (by omega) (by omega) (by omega) (fun h => by have := m6.2.2.2 h; omega)⟩
  unfold evI
  have := N.i
  by_cases hw : wants s = true
  · rw [if_pos hw] at this
    rw [hw, this.iff h0 m0 m5 m1]; rfl
  · rw [if_neg hw] at this
    rw [Bool.not_eq_true] at hw
    rw [hw]
    have : at_ ≠ i := by omega
    simp [this]
end
/-- The state but for what is noted. -/
def like (s s' : Pt) : Prop := { s with soon := 0 } = { s' with soon := 0 }
theorem like.now {s s' : Pt} (h : like s s') : s.now = s'.now := (congrArg Pt.now h : ({ s with soon := 0 } : Pt).now = ({ s' with soon := 0 } : Pt).now)
theorem tick_soon (s : Pt) (x : Int) : tick { s with soon := x } = { tick s with soon := x } := rfl
theorem ticks_soon (n : Nat) (s : Pt) (x : Int) : ticks n { s with soon := x } = { ticks n s with soon := x } := by
  induction n generalizing s with
  | zero => rfl
  | succ n ih => show ticks n (tick { s with soon := x }) = _; rw [tick_soon]; exact ih _
theorem like.ticks {s s' : Pt} (h : like s s') (n : Nat) : like (ticks n s) (ticks n s') := by
  unfold like at *
  rw [← ticks_soon, ← ticks_soon, h]
end Go.Proofs.YtniagcbajjmopaaGreat
