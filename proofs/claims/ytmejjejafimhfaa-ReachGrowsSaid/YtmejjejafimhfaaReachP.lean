/- The plain law of courses: a course is a tree of accesses; what is seen drives it. No program. -/
import Derived.Test.YtmejjejafimhfaaReachR
namespace Go.Proofs.Ytmejjejafimhfaa
set_option linter.unusedVariables false

inductive Tr (α : Type) where
  | ret (a : α)
  | read (ad : Int) (k : Int → Tr α)
  | idle (t : Tr α)
def Tr.bind {α β : Type} : Tr α → (α → Tr β) → Tr β
  | .ret a, f => f a
  | .read ad k, f => .read ad fun b => (k b).bind f
  | .idle t, f => .idle (t.bind f)
/-- What is unread, what was done, whether it is stuck. -/
structure Tp where
  bs : List Int
  L : List Acc
  st : Bool
def Tr.run {α : Type} : Tr α → Tp → α × Tp
  | .ret a, s => (a, s)
  | .read ad k, s => (k (rdB s.bs)).run ⟨s.bs.tail, addL s.L s.st (1, ad % 16777216, 0), rdS s.bs s.st⟩
  | .idle t, s => t.run ⟨s.bs, addL s.L s.st (0, 0, 0), s.st⟩
theorem Tr.run_bind {α β : Type} (t : Tr α) (f : α → Tr β) (s : Tp) : (t.bind f).run s = (f (t.run s).1).run (t.run s).2 := by
  induction t generalizing s with
  | ret a => rfl
  | read ad k ih => simp only [Tr.bind, Tr.run]; exact ih _ _
  | idle t ih => simp only [Tr.bind, Tr.run]; exact ih _
/-- What a tree does with bytes: its accesses; its value and the rest, if the bytes do. -/
def Tr.out {α : Type} : Tr α → List Int → List Acc × Option (α × List Int)
  | .ret a, bs => ([], some (a, bs))
  | .read ad k, [] => ([(1, ad % 16777216, 0)], none)
  | .read ad k, b :: bs => ((1, ad % 16777216, 0) :: ((k b).out bs).1, ((k b).out bs).2)
  | .idle t, bs => ((0, 0, 0) :: (t.out bs).1, (t.out bs).2)
/-- All its ways have at most n accesses. -/
inductive Tr.Len {α : Type} : Nat → Tr α → Prop where
  | ret (n a) : Tr.Len n (.ret a)
  | read (n ad k) : (∀ b, Tr.Len n (k b)) → Tr.Len (n + 1) (.read ad k)
  | idle (n t) : Tr.Len n t → Tr.Len (n + 1) (.idle t)
theorem Tr.Len.up {α : Type} {t : Tr α} {n : Nat} (h : Tr.Len n t) : ∀ {m : Nat}, n ≤ m → Tr.Len m t := by
  induction h with
  | ret n a => intro m _; exact .ret _ _
  | read n ad k _ ih =>
    intro m hm
    obtain ⟨m, rfl⟩ : ∃ q, m = q + 1 := ⟨m - 1, by omega⟩
    exact .read _ _ _ fun b => ih b (by omega)
  | idle n t _ ih =>
    intro m hm
    obtain ⟨m, rfl⟩ : ∃ q, m = q + 1 := ⟨m - 1, by omega⟩
    exact .idle _ _ (ih (by omega))
theorem Tr.Len.bind {α β : Type} {t : Tr α} {f : α → Tr β} {n m : Nat} (h : Tr.Len n t) (hf : ∀ a, Tr.Len m (f a)) : Tr.Len (n + m) (t.bind f) := by
  induction h with
  | ret n a => exact (hf a).up (by omega)
  | read n ad k _ ih => rw [show n + 1 + m = (n + m) + 1 by omega]; exact .read _ _ _ ih
  | idle n t _ ih => rw [show n + 1 + m = (n + m) + 1 by omega]; exact .idle _ _ ih
theorem Tr.out_len {α : Type} {t : Tr α} {n : Nat} (h : Tr.Len n t) (bs : List Int) : (t.out bs).1.length ≤ n := by
  induction h generalizing bs with
  | ret n a => simp [Tr.out]
  | read n ad k _ ih =>
    cases bs with
    | nil => simp [Tr.out]
    | cons b bs => have := ih b bs; simp [Tr.out]; omega
  | idle n t _ ih => have := ih bs; simp [Tr.out]; omega
theorem addL_false {L : List Acc} {x : Acc} (h : L.length < 12) : addL L false x = L ++ [x] := by simp [addL, h]
theorem addL_true (L : List Acc) (x : Acc) : addL L true x = L := by simp [addL]
theorem Tr.run_stuck {α : Type} (t : Tr α) (bs : List Int) (L : List Acc) : ∃ bs', (t.run ⟨bs, L, true⟩).2 = ⟨bs', L, true⟩ := by
  induction t generalizing bs with
  | ret a => exact ⟨bs, rfl⟩
  | read ad k ih =>
    have e : rdS bs true = true := by simp [rdS]
    simp only [Tr.run, addL_true, e]
    exact ih _ _
  | idle t ih => simp only [Tr.run, addL_true]; exact ih _
/-- A run is what the tree does. -/
theorem Tr.run_out {α : Type} {t : Tr α} {n : Nat} (h : Tr.Len n t) (bs : List Int) (L : List Acc) (hl : L.length + n ≤ 12) :
    (t.run ⟨bs, L, false⟩).2.L = L ++ (t.out bs).1 ∧ (t.run ⟨bs, L, false⟩).2.st = (t.out bs).2.isNone ∧ (∀ a rest, (t.out bs).2 = some (a, rest) → (t.run ⟨bs, L, false⟩).1 = a) := by
  induction h generalizing bs L with
  | ret n a => simp [Tr.run, Tr.out]
  | read n ad k _ ih =>
    have ha : addL L false (1, ad % 16777216, 0) = L ++ [(1, ad % 16777216, 0)] := addL_false (by omega)
    cases bs with
    | nil =>
      simp only [Tr.run, Tr.out, ha]
      have e : rdS ([] : List Int) false = true := by simp [rdS]
      rw [e]
      obtain ⟨bs', h2⟩ := Tr.run_stuck (k (rdB [])) ([] : List Int).tail (L ++ [(1, ad % 16777216, 0)])
      rw [h2]
      simp
    | cons b bs =>
      simp only [Tr.run, Tr.out, ha]
      have e : rdS (b :: bs) false = false := by simp [rdS]
      rw [e]
      have := ih (rdB (b :: bs)) bs (L ++ [(1, ad % 16777216, 0)]) (by simp; omega)
      simpa [rdB] using this
  | idle n t _ ih =>
    simp only [Tr.run, Tr.out, addL_false (show L.length < 12 by omega)]
    have := ih bs (L ++ [(0, 0, 0)]) (by simp; omega)
    simpa using this
/-- How many of the accesses read. -/
def rdN (L : List Acc) : Nat := (L.filter (fun x => x.1 == 1)).length
theorem Tr.out_reads {α : Type} (t : Tr α) (bs : List Int) :
    ((t.out bs).2 = none → rdN (t.out bs).1 = bs.length + 1 ∧ ∃ D ad, (t.out bs).1 = D ++ [(1, ad, 0)]) ∧
    (∀ a rest, (t.out bs).2 = some (a, rest) → rdN (t.out bs).1 + rest.length = bs.length) ∧
    (∀ x ∈ (t.out bs).1, (x.1 = 0 ∧ x.2.1 = 0 ∨ x.1 = 1) ∧ 0 ≤ x.2.1 ∧ x.2.1 < 16777216 ∧ x.2.2 = 0) := by
  induction t generalizing bs with
  | ret a => simp [Tr.out, rdN]
  | read ad k ih =>
    cases bs with
    | nil =>
      refine ⟨fun _ => ⟨by simp [Tr.out, rdN], [], _, rfl⟩, by simp [Tr.out], ?_⟩
      intro x hx
      simp [Tr.out] at hx
      subst hx
      exact ⟨Or.inr rfl, by show 0 ≤ ad % 16777216; omega, by show ad % 16777216 < 16777216; omega, rfl⟩
    | cons b bs =>
      obtain ⟨h1, h2, h3⟩ := ih b bs
      refine ⟨?_, ?_, ?_⟩
      · intro h
        obtain ⟨e1, D, ad', e2⟩ := h1 h
        refine ⟨?_, (1, ad % 16777216, 0) :: D, ad', ?_⟩
        · simp only [Tr.out, rdN, List.filter_cons, beq_self_eq_true, if_true, List.length_cons] at e1 ⊢
          omega
        · simp only [Tr.out, e2, List.cons_append]
      · intro a rest h
        have := h2 a rest h
        simp only [Tr.out, rdN, List.filter_cons, beq_self_eq_true, if_true, List.length_cons] at this ⊢
        omega
      · intro x hx
        simp only [Tr.out, List.mem_cons] at hx
        rcases hx with rfl | hx
        · exact ⟨Or.inr rfl, by show 0 ≤ ad % 16777216; omega, by show ad % 16777216 < 16777216; omega, rfl⟩
        · exact h3 x hx
  | idle t ih =>
    obtain ⟨h1, h2, h3⟩ := ih bs
    refine ⟨?_, ?_, ?_⟩
    · intro h
      obtain ⟨e1, D, ad', e2⟩ := h1 h
      exact ⟨by simpa [Tr.out, rdN] using e1, (0, 0, 0) :: D, ad', by simp only [Tr.out, e2, List.cons_append]⟩
    · intro a rest h
      have := h2 a rest h
      simpa [Tr.out, rdN] using this
    · intro x hx
      simp only [Tr.out, List.mem_cons] at hx
      rcases hx with rfl | hx
      · exact ⟨Or.inl ⟨rfl, rfl⟩, by decide, by decide, rfl⟩
      · exact h3 x hx
/-- More bytes. -/
theorem Tr.out_more {α : Type} (t : Tr α) (bs more : List Int) :
    (∀ a rest, (t.out bs).2 = some (a, rest) → t.out (bs ++ more) = ((t.out bs).1, some (a, rest ++ more))) ∧ ((t.out bs).1 <+: (t.out (bs ++ more)).1) := by
  induction t generalizing bs with
  | ret a => simp [Tr.out]
  | read ad k ih =>
    cases bs with
    | nil =>
      refine ⟨by simp [Tr.out], ?_⟩
      cases more with
      | nil => simp [Tr.out]
      | cons b more => simp [Tr.out]
    | cons b bs =>
      obtain ⟨h1, h2⟩ := ih b bs
      refine ⟨?_, by simpa [Tr.out] using h2⟩
      intro a rest h
      have := h1 a rest h
      simp [Tr.out, this]
  | idle t ih =>
    obtain ⟨h1, h2⟩ := ih bs
    refine ⟨?_, by simpa [Tr.out] using h2⟩
    intro a rest h
    have := h1 a rest h
    simp [Tr.out, this]
end Go.Proofs.Ytmejjejafimhfaa
