/- ReachGrows: what the statement says, of trees. No program. -/
import Derived.Test.YtmejjejafimhfaaReachQ
namespace Go.Proofs.Ytmejjejafimhfaa
set_option linter.unusedVariables false
abbrev CT := Tr ((Int × Bool) × Rg)
def acc (t : CT) (S : List Int) (n : Nat) : List Acc := (t.out (S.take n)).1
def dn (t : CT) (S : List Int) (n : Nat) : Bool := (t.out (S.take n)).2.isSome
theorem acc_len {t : CT} (h : t.Len 8) (S : List Int) (n : Nat) : (acc t S n).length ≤ 8 := Tr.out_len h _
theorem acc_at (t : CT) (S : List Int) (n : Nat) {i : Nat} {x : Acc} (h : (acc t S n)[i]? = some x) : (x.1 = 0 ∨ x.1 = 1) ∧ 0 ≤ x.2.1 ∧ x.2.1 < 16777216 := by
  have hm : x ∈ acc t S n := List.mem_of_getElem? h
  obtain ⟨a, b, c, _⟩ := (Tr.out_reads t (S.take n)).2.2 x hm
  exact ⟨a.imp (fun h => h.1) id, b, c⟩
theorem acc_stuck (t : CT) (S : List Int) (n : Nat) (hn : n ≤ S.length) (h : dn t S n = false) : rdN (acc t S n) = n + 1 ∧ ∃ x, (acc t S n)[(acc t S n).length - 1]? = some x ∧ x.1 = 1 ∧ 1 ≤ (acc t S n).length := by
  have hz : (t.out (S.take n)).2 = none := by
    unfold dn at h
    cases hq : (t.out (S.take n)).2 with
    | none => rfl
    | some a => rw [hq] at h; cases h
  obtain ⟨a, D, ad, e⟩ := (Tr.out_reads t (S.take n)).1 hz
  refine ⟨by unfold acc; rw [a]; simp; omega, (1, ad, 0), ?_, rfl, ?_⟩
  · unfold acc; rw [e]; simp
  · unfold acc; rw [e]; simp
theorem acc_done (t : CT) (S : List Int) (n : Nat) (hn : n ≤ S.length) (h : dn t S n = true) : rdN (acc t S n) ≤ n := by
  unfold dn at h
  obtain ⟨⟨a, rest⟩, hz⟩ := Option.isSome_iff_exists.mp h
  have := (Tr.out_reads t (S.take n)).2.1 a rest hz
  unfold acc
  simp at this
  omega
theorem acc_next (t : CT) (S : List Int) (n : Nat) (hn : n < S.length) : acc t S n <+: acc t S (n + 1) := by
  obtain ⟨_, h⟩ := Tr.out_more t (S.take n) [S[n]]
  unfold acc
  rw [List.take_succ_eq_append_getElem hn]
  exact h
theorem acc_still (t : CT) (S : List Int) (n : Nat) (hn : n < S.length) (h : dn t S n = true) : acc t S (n + 1) = acc t S n ∧ dn t S (n + 1) = true := by
  unfold dn at h
  obtain ⟨⟨a, rest⟩, hz⟩ := Option.isSome_iff_exists.mp h
  have := (Tr.out_more t (S.take n) [S[n]]).1 a rest hz
  unfold acc dn
  rw [List.take_succ_eq_append_getElem hn, this]
  exact ⟨rfl, rfl⟩
/-- What the last round left. -/
def Pst (t : CT) (S : List Int) : Nat → List Acc → Bool → Prop
  | 0, L, e => L = [] ∧ e = false
  | k + 1, L, e => L = acc t S k ∧ e = dn t S k
theorem Pst.pre {t : CT} {S : List Int} {n : Nat} {L : List Acc} {e : Bool} (h : Pst t S n L e) (hn : n ≤ S.length) : L <+: acc t S n ∧ (e = true → acc t S n = L ∧ dn t S n = true) := by
  match n, h with
  | 0, ⟨h1, h2⟩ => subst h1; subst h2; exact ⟨List.nil_prefix, by simp⟩
  | k + 1, ⟨h1, h2⟩ =>
    subst h1
    exact ⟨acc_next t S k (by omega), fun he => acc_still t S k (by omega) (by rw [← h2]; exact he)⟩
theorem rdN_take (L : List Acc) (k : Nat) {x : Acc} (h : L[k]? = some x) : rdN (L.take (k + 1)) = rdN (L.take k) + (if x.1 = 1 then 1 else 0) := by
  obtain ⟨hk, rfl⟩ := List.getElem?_eq_some_iff.mp h
  rw [List.take_succ_eq_append_getElem hk]
  unfold rdN
  rw [List.filter_append, List.length_append]
  by_cases e : L[k].1 = 1
  · simp [e]
  · simp [e]
end Go.Proofs.Ytmejjejafimhfaa
