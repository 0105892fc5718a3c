/- Arguments that are slices, opened: of numbers, of structs of three numbers. Of whatever program. A slice of structs of four numbers, opened. Of whatever program. -/
import Derived.Test.YtkeikkkcmackeaaArr
import Derived.ProofKit
import Derived.OpenShut
import Derived.SizedLaws
import Derived.Deep.Strs
import Derived.Deep.Slices
import Derived.Lib.SmallJoins
namespace Go.Proofs.Ytkeikkkcmackeaa
open Go.RowKit
set_option linter.unusedVariables false

theorem add_flat (b off j : Nat) : (⟨b, off, none⟩ : Addr).add j = ⟨b, off + j, none⟩ := by
  unfold Addr.add
  split
  · subst j; rfl
  · rfl
theorem flat_of {w : World} {a : Addr} {v : Value} (h : w.cell? a = some v) : a = ⟨a.block, a.off, none⟩ := by
  have hs : a.spot = none := by
    unfold World.cell? at h
    split at h
    · split at h
      · cases h
      · rename_i hh; simpa using hh
    · cases h
  obtain ⟨b, o, s⟩ := a
  simp only at hs
  subst hs
  rfl

section
open Go.ChangeShapes Go.WideShapes Go.ChangeAt
variable {H : Type} {enc : TypeId × Value → H} {P : Program} {W : World} {base : Nat} {v : Value} {d : DataW H} {p : List MemPlace}
/-- A slice of numbers: it sees some, each a number of its kind, and it is not too long. -/
theorem openRow {T E : TypeId} {k : IntKind} {B : Nat} (hT : P.underlying T = some (.slice E)) (hE : P.underlying E = some (.int k)) (hc : P.cellsOf E = 1) (hB : P.bytesOf E = B)
    (hk : Value.okWide P W .any base T v) (h : DataW.Trod enc P W 0 (fun _ => true) true T v d p)
    (hsz : ∀ elems spare, d = .slice elems spare → (elems.length + spare.length) * P.bytesOf E ≤ reachBytes) :
    ∃ n f, Sees W k v n f ∧ n * B ≤ 140737488351232 ∧ n ≤ 9223372036854775807 ∧ ∀ j, j < n → (Lit.int k (f j)).wf = true := by
  obtain ⟨ao, len, cap, rfl⟩ := okWide_slice hT hk
  obtain ⟨fuel, hf⟩ := h
  rcases open_ints hT hE hc hf with ⟨hcs, hx⟩ | ⟨a, len', cap', zs, hcs, _, hl, hm, hz, hx, hcell, hwf⟩
  · simp [Value.cells] at hcs
    obtain ⟨rfl, rfl, rfl⟩ := hcs
    exact ⟨0, fun _ => 0, Sees.nil _ _ _ _, by omega, by omega, fun j hj => absurd hj (Nat.not_lt_zero _)⟩
  · simp [Value.cells] at hcs
    obtain ⟨rfl, rfl, rfl⟩ := hcs
    simp only [Prod.mk.injEq] at hx
    have hs := hsz _ _ hx.1
    rw [hB] at hs
    simp only [lits, List.length_map, List.length_take, List.length_drop, reachBytes] at hs
    have hlz : len ≤ zs.length := by
      rw [hz]; simp; exact hl
    have hs2 : len * B ≤ 140737488351232 := by
      refine Nat.le_trans (Nat.mul_le_mul_right B ?_) hs
      omega
    unfold maxLen at hm
    refine ⟨len, fun j => zs.getD j 0, ⟨some a, cap, rfl, ?_⟩, hs2, by omega, fun j hj => ?_⟩
    · rcases Nat.eq_zero_or_pos len with h0 | h0
      · exact Or.inl h0
      · have h1 := hcell 0 (by omega)
        rw [show a.add 0 = a by simp [Addr.add]] at h1
        have ha := flat_of h1
        obtain ⟨b, off, hba⟩ : ∃ b off, a = ⟨b, off, none⟩ := ⟨_, _, ha⟩
        subst hba
        exact Or.inr ⟨b, off, rfl, fun j hj => by rw [← add_flat]; exact hcell j (by omega)⟩
    · have hj' : j < zs.length := by omega
      exact hwf (zs.getD j 0) (by simp [List.getD_eq_getElem?_getD, hj'])

/-- A slice of structs of two numbers. -/
def Sees2 (w : World) (k0 k1 : IntKind) (v : Value) (n : Nat) (f0 f1 : Nat → Int) : Prop :=
  ∃ ao c, v = .slice ao n c ∧ (n = 0 ∨ ∃ b off, ao = some ⟨b, off, none⟩ ∧ ∀ j, j < n → w.cell? ⟨b, off + j * 2, none⟩ = some (.int k0 (f0 j)) ∧ w.cell? ⟨b, off + j * 2 + 1, none⟩ = some (.int k1 (f1 j)))
theorem openTwo {T E : TypeId} {F0 F1 : Field} {k0 k1 : IntKind} (hT : P.underlying T = some (.slice E)) (hE : P.underlying E = some (.struct #[F0, F1])) (hc : P.cellsOf E = 2)
    (o0 : F0.offset = 0) (o1 : F1.offset = 1) (c0 : P.cellsOf F0.type = 1) (c1 : P.cellsOf F1.type = 1)
    (u0 : P.underlying F0.type = some (.int k0)) (u1 : P.underlying F1.type = some (.int k1))
    (hk : Value.okWide P W .any base T v) (h : DataW.Trod enc P W 0 (fun _ => true) true T v d p) :
    ∃ n f0 f1, Sees2 W k0 k1 v n f0 f1 ∧ n ≤ 9223372036854775807 ∧ ∀ j, j < n → (Lit.int k0 (f0 j)).wf = true ∧ (Lit.int k1 (f1 j)).wf = true := by
  obtain ⟨ao, len, cap, rfl⟩ := okWide_slice hT hk
  obtain ⟨fuel, hf⟩ := h
  rcases Go.Deep.open_slice hT hf with ⟨hcs, hx⟩ | ⟨a, len', cap', m, nn, D, Pl, hcs, hb, hl, hm, hmm, hx, hi⟩
  · simp [Value.cells] at hcs
    obtain ⟨rfl, rfl, rfl⟩ := hcs
    exact ⟨0, fun _ => 0, fun _ => 0, ⟨_, _, rfl, Or.inl rfl⟩, by omega, fun j hj => absurd hj (Nat.not_lt_zero _)⟩
  · simp [Value.cells] at hcs
    obtain ⟨rfl, rfl, rfl⟩ := hcs
    have hlm : len ≤ m := by rw [hmm]; simp; exact hl
    unfold maxLen at hm
    have key : ∀ j, j < len → ∃ x0 x1 : Int, W.cell? (a.add (j * 2)) = some (.int k0 x0) ∧ W.cell? ((a.add (j * 2)).add 1) = some (.int k1 x1) ∧ (Lit.int k0 x0).wf = true ∧ (Lit.int k1 x1).wf = true := by
      intro j hj
      obtain ⟨cs', hcc, ht⟩ := hi j (by omega)
      rw [hc] at hcc
      obtain ⟨y0, y1, n2, _, hlen, t0, t1⟩ := trod_struct2 hE ht
      obtain ⟨_, hcl, hat⟩ := World.cells?_some hcc
      rw [o0, c0] at t0
      rw [o1, c1] at t1
      obtain ⟨x0, e0, _, w0⟩ := DataW.trod_int u0 t0
      obtain ⟨x1, e1, _, w1⟩ := DataW.trod_int u1 t1
      refine ⟨x0, x1, ?_, ?_, w0, w1⟩
      · have g := hat 0 (by omega)
        rw [show (a.add (j * 2)).add 0 = a.add (j * 2) by simp [Addr.add]] at g
        rw [g, show cs'[0]? = (cs'.drop 0)[0]? by simp]
        have e0' := congrArg (fun l : List Value => l[0]?) e0
        simpa using e0'
      · have g := hat 1 (by omega)
        rw [g]
        have e1' := congrArg (fun l : List Value => l[0]?) e1
        simpa using e1'
    rcases Nat.eq_zero_or_pos len with h0 | h0
    · subst h0
      exact ⟨0, fun _ => 0, fun _ => 0, ⟨_, _, rfl, Or.inl rfl⟩, by omega, fun j hj => absurd hj (Nat.not_lt_zero _)⟩
    · obtain ⟨_, _, h1, _⟩ := key 0 h0
      rw [show a.add (0 * 2) = a by simp [Addr.add]] at h1
      have ha := flat_of h1
      obtain ⟨b, off, hba⟩ : ∃ b off, a = ⟨b, off, none⟩ := ⟨_, _, ha⟩
      subst hba
      have ex : ∀ j, ∃ x : Int × Int, j < len → W.cell? ⟨b, off + j * 2, none⟩ = some (.int k0 x.1) ∧ W.cell? ⟨b, off + j * 2 + 1, none⟩ = some (.int k1 x.2) ∧ (Lit.int k0 x.1).wf = true ∧ (Lit.int k1 x.2).wf = true := by
        intro j
        by_cases hj : j < len
        · obtain ⟨x0, x1, g0, g1, w0, w1⟩ := key j hj
          rw [add_flat] at g0 g1
          rw [add_flat] at g1
          exact ⟨(x0, x1), fun _ => ⟨g0, g1, w0, w1⟩⟩
        · exact ⟨(0, 0), fun h => absurd h hj⟩
      have F := fun j => Classical.choose_spec (ex j)
      refine ⟨len, fun j => (Classical.choose (ex j)).1, fun j => (Classical.choose (ex j)).2, ⟨_, _, rfl, Or.inr ⟨b, off, rfl, fun j hj => ?_⟩⟩, by omega, fun j hj => ?_⟩
      · have := F j hj
        exact ⟨this.1, this.2.1⟩
      · have := F j hj
        exact ⟨this.2.2.1, this.2.2.2⟩
/-- A slice of structs of three numbers. -/
def Sees3 (w : World) (k0 k1 k2 : IntKind) (v : Value) (n : Nat) (f0 f1 f2 : Nat → Int) : Prop :=
  ∃ ao c, v = .slice ao n c ∧ (n = 0 ∨ ∃ b off, ao = some ⟨b, off, none⟩ ∧ ∀ j, j < n → w.cell? ⟨b, off + j * 3, none⟩ = some (.int k0 (f0 j)) ∧ w.cell? ⟨b, off + j * 3 + 1, none⟩ = some (.int k1 (f1 j)) ∧ w.cell? ⟨b, off + j * 3 + 2, none⟩ = some (.int k2 (f2 j)))
theorem openThree {T E : TypeId} {F0 F1 F2 : Field} {k0 k1 k2 : IntKind} (hT : P.underlying T = some (.slice E)) (hE : P.underlying E = some (.struct #[F0, F1, F2])) (hc : P.cellsOf E = 3)
    (o0 : F0.offset = 0) (o1 : F1.offset = 1) (o2 : F2.offset = 2) (c0 : P.cellsOf F0.type = 1) (c1 : P.cellsOf F1.type = 1) (c2 : P.cellsOf F2.type = 1)
    (u0 : P.underlying F0.type = some (.int k0)) (u1 : P.underlying F1.type = some (.int k1)) (u2 : P.underlying F2.type = some (.int k2))
    (hk : Value.okWide P W .any base T v) (h : DataW.Trod enc P W 0 (fun _ => true) true T v d p) :
    ∃ n f0 f1 f2, Sees3 W k0 k1 k2 v n f0 f1 f2 ∧ n ≤ 9223372036854775807 ∧ ∀ j, j < n → (Lit.int k0 (f0 j)).wf = true ∧ (Lit.int k1 (f1 j)).wf = true ∧ (Lit.int k2 (f2 j)).wf = true := by
  obtain ⟨ao, len, cap, rfl⟩ := okWide_slice hT hk
  obtain ⟨fuel, hf⟩ := h
  rcases Go.Deep.open_slice hT hf with ⟨hcs, hx⟩ | ⟨a, len', cap', m, nn, D, Pl, hcs, hb, hl, hm, hmm, hx, hi⟩
  · simp [Value.cells] at hcs
    obtain ⟨rfl, rfl, rfl⟩ := hcs
    exact ⟨0, fun _ => 0, fun _ => 0, fun _ => 0, ⟨_, _, rfl, Or.inl rfl⟩, by omega, fun j hj => absurd hj (Nat.not_lt_zero _)⟩
  · simp [Value.cells] at hcs
    obtain ⟨rfl, rfl, rfl⟩ := hcs
    have hlm : len ≤ m := by rw [hmm]; simp; exact hl
    unfold maxLen at hm
    have key : ∀ j, j < len → ∃ x0 x1 x2 : Int, W.cell? (a.add (j * 3)) = some (.int k0 x0) ∧ W.cell? ((a.add (j * 3)).add 1) = some (.int k1 x1) ∧ W.cell? ((a.add (j * 3)).add 2) = some (.int k2 x2) ∧ (Lit.int k0 x0).wf = true ∧ (Lit.int k1 x1).wf = true ∧ (Lit.int k2 x2).wf = true := by
      intro j hj
      obtain ⟨cs', hcc, ht⟩ := hi j (by omega)
      rw [hc] at hcc
      obtain ⟨y0, y1, y2, n2, _, hlen, t0, t1, t2⟩ := Go.Deep.trod_struct3 hE ht
      obtain ⟨_, hcl, hat⟩ := World.cells?_some hcc
      rw [o0, c0] at t0
      rw [o1, c1] at t1
      rw [o2, c2] at t2
      obtain ⟨x0, e0, _, w0⟩ := DataW.trod_int u0 t0
      obtain ⟨x1, e1, _, w1⟩ := DataW.trod_int u1 t1
      obtain ⟨x2, e2, _, w2⟩ := DataW.trod_int u2 t2
      refine ⟨x0, x1, x2, ?_, ?_, ?_, w0, w1, w2⟩
      · have g := hat 0 (by omega)
        rw [show (a.add (j * 3)).add 0 = a.add (j * 3) by simp [Addr.add]] at g
        rw [g, show cs'[0]? = (cs'.drop 0)[0]? by simp]
        have e0' := congrArg (fun l : List Value => l[0]?) e0
        simpa using e0'
      · have g := hat 1 (by omega)
        rw [g]
        have e1' := congrArg (fun l : List Value => l[0]?) e1
        simpa using e1'
      · have g := hat 2 (by omega)
        rw [g]
        have e2' := congrArg (fun l : List Value => l[0]?) e2
        simpa using e2'
    rcases Nat.eq_zero_or_pos len with h0 | h0
    · subst h0
      exact ⟨0, fun _ => 0, fun _ => 0, fun _ => 0, ⟨_, _, rfl, Or.inl rfl⟩, by omega, fun j hj => absurd hj (Nat.not_lt_zero _)⟩
    · obtain ⟨_, _, _, h1, _⟩ := key 0 h0
      rw [show a.add (0 * 3) = a by simp [Addr.add]] at h1
      have ha := flat_of h1
      obtain ⟨b, off, hba⟩ : ∃ b off, a = ⟨b, off, none⟩ := ⟨_, _, ha⟩
      subst hba
      have ex : ∀ j, ∃ x : Int × Int × Int, j < len → W.cell? ⟨b, off + j * 3, none⟩ = some (.int k0 x.1) ∧ W.cell? ⟨b, off + j * 3 + 1, none⟩ = some (.int k1 x.2.1) ∧ W.cell? ⟨b, off + j * 3 + 2, none⟩ = some (.int k2 x.2.2) ∧ (Lit.int k0 x.1).wf = true ∧ (Lit.int k1 x.2.1).wf = true ∧ (Lit.int k2 x.2.2).wf = true := by
        intro j
        by_cases hj : j < len
        · obtain ⟨x0, x1, x2, g0, g1, g2, w0, w1, w2⟩ := key j hj
          rw [add_flat] at g0 g1 g2
          rw [add_flat] at g1 g2
          exact ⟨(x0, x1, x2), fun _ => ⟨g0, g1, g2, w0, w1, w2⟩⟩
        · exact ⟨(0, 0, 0), fun h => absurd h hj⟩
      have F := fun j => Classical.choose_spec (ex j)
      refine ⟨len, fun j => (Classical.choose (ex j)).1, fun j => (Classical.choose (ex j)).2.1, fun j => (Classical.choose (ex j)).2.2, ⟨_, _, rfl, Or.inr ⟨b, off, rfl, fun j hj => ?_⟩⟩, by omega, fun j hj => ?_⟩
      · have := F j hj
        exact ⟨this.1, this.2.1, this.2.2.1⟩
      · have := F j hj
        exact ⟨this.2.2.2.1, this.2.2.2.2.1, this.2.2.2.2.2⟩
end
end Go.Proofs.Ytkeikkkcmackeaa

namespace Go.Proofs.Ytkeikkkcmackeaa
open Go.RowKit
set_option linter.unusedVariables false
section
open Go.ChangeShapes Go.WideShapes Go.ChangeAt
variable {H : Type} {enc : TypeId × Value → H} {P : Program} {W : World} {base : Nat} {v : Value} {d : DataW H} {p : List MemPlace}
/-- A slice of structs of four numbers. -/
def SeesFour (w : World) (k0 k1 k2 k3 : IntKind) (v : Value) (n : Nat) (f0 f1 f2 f3 : Nat → Int) : Prop :=
  ∃ ao c, v = .slice ao n c ∧ (n = 0 ∨ ∃ b off, ao = some ⟨b, off, none⟩ ∧ ∀ j, j < n → w.cell? ⟨b, off + j * 4, none⟩ = some (.int k0 (f0 j)) ∧ w.cell? ⟨b, off + j * 4 + 1, none⟩ = some (.int k1 (f1 j)) ∧ w.cell? ⟨b, off + j * 4 + 2, none⟩ = some (.int k2 (f2 j)) ∧ w.cell? ⟨b, off + j * 4 + 3, none⟩ = some (.int k3 (f3 j)))
theorem openFour {T E : TypeId} {F0 F1 F2 F3 : Field} {k0 k1 k2 k3 : IntKind} (hT : P.underlying T = some (.slice E)) (hE : P.underlying E = some (.struct #[F0, F1, F2, F3])) (hc : P.cellsOf E = 4)
    (o0 : F0.offset = 0) (o1 : F1.offset = 1) (o2 : F2.offset = 2) (o3 : F3.offset = 3) (c0 : P.cellsOf F0.type = 1) (c1 : P.cellsOf F1.type = 1) (c2 : P.cellsOf F2.type = 1) (c3 : P.cellsOf F3.type = 1)
    (u0 : P.underlying F0.type = some (.int k0)) (u1 : P.underlying F1.type = some (.int k1)) (u2 : P.underlying F2.type = some (.int k2)) (u3 : P.underlying F3.type = some (.int k3))
    (hk : Value.okWide P W .any base T v) (h : DataW.Trod enc P W 0 (fun _ => true) true T v d p) :
    ∃ n f0 f1 f2 f3, SeesFour W k0 k1 k2 k3 v n f0 f1 f2 f3 ∧ n ≤ 9223372036854775807 ∧ ∀ j, j < n → (Lit.int k0 (f0 j)).wf = true ∧ (Lit.int k1 (f1 j)).wf = true ∧ (Lit.int k2 (f2 j)).wf = true ∧ (Lit.int k3 (f3 j)).wf = true := by
  obtain ⟨ao, len, cap, rfl⟩ := okWide_slice hT hk
  obtain ⟨fuel, hf⟩ := h
  rcases Go.Deep.open_slice hT hf with ⟨hcs, hx⟩ | ⟨a, len', cap', m, nn, D, Pl, hcs, hb, hl, hm, hmm, hx, hi⟩
  · simp [Value.cells] at hcs
    obtain ⟨rfl, rfl, rfl⟩ := hcs
    exact ⟨0, fun _ => 0, fun _ => 0, fun _ => 0, fun _ => 0, ⟨_, _, rfl, Or.inl rfl⟩, by omega, fun j hj => absurd hj (Nat.not_lt_zero _)⟩
  · simp [Value.cells] at hcs
    obtain ⟨rfl, rfl, rfl⟩ := hcs
    have hlm : len ≤ m := by rw [hmm]; simp; exact hl
    unfold maxLen at hm
    have key : ∀ j, j < len → ∃ x0 x1 x2 x3 : Int, W.cell? (a.add (j * 4)) = some (.int k0 x0) ∧ W.cell? ((a.add (j * 4)).add 1) = some (.int k1 x1) ∧ W.cell? ((a.add (j * 4)).add 2) = some (.int k2 x2) ∧ W.cell? ((a.add (j * 4)).add 3) = some (.int k3 x3) ∧ (Lit.int k0 x0).wf = true ∧ (Lit.int k1 x1).wf = true ∧ (Lit.int k2 x2).wf = true ∧ (Lit.int k3 x3).wf = true := by
      intro j hj
      obtain ⟨cs', hcc, ht⟩ := hi j (by omega)
      rw [hc] at hcc
      obtain ⟨y0, y1, y2, y3, n2, hD, hlen, t0, t1, t2, t3⟩ := Go.Joins.trod_struct4 hE ht
      obtain ⟨_, hcl, hat⟩ := World.cells?_some hcc
      rw [o0, c0] at t0
      rw [o1, c1] at t1
      rw [o2, c2] at t2
      rw [o3, c3] at t3
      obtain ⟨x0, e0, _, w0⟩ := DataW.trod_int u0 t0
      obtain ⟨x1, e1, _, w1⟩ := DataW.trod_int u1 t1
      obtain ⟨x2, e2, _, w2⟩ := DataW.trod_int u2 t2
      obtain ⟨x3, e3, _, w3⟩ := DataW.trod_int u3 t3
      refine ⟨x0, x1, x2, x3, ?_, ?_, ?_, ?_, w0, w1, w2, w3⟩
      · have g := hat 0 (by omega)
        rw [show (a.add (j * 4)).add 0 = a.add (j * 4) by simp [Addr.add]] at g
        rw [g, show cs'[0]? = (cs'.drop 0)[0]? by simp]
        have e0' := congrArg (fun l : List Value => l[0]?) e0
        simpa using e0'
      · have g := hat 1 (by omega)
        rw [g]
        have e1' := congrArg (fun l : List Value => l[0]?) e1
        simpa using e1'
      · have g := hat 2 (by omega)
        rw [g]
        have e2' := congrArg (fun l : List Value => l[0]?) e2
        simpa using e2'
      · have g := hat 3 (by omega)
        rw [g]
        have e3' := congrArg (fun l : List Value => l[0]?) e3
        simpa using e3'
    rcases Nat.eq_zero_or_pos len with h0 | h0
    · subst h0
      exact ⟨0, fun _ => 0, fun _ => 0, fun _ => 0, fun _ => 0, ⟨_, _, rfl, Or.inl rfl⟩, by omega, fun j hj => absurd hj (Nat.not_lt_zero _)⟩
    · obtain ⟨_, _, _, _, h1, _⟩ := key 0 h0
      rw [show a.add (0 * 4) = a by simp [Addr.add]] at h1
      have ha := flat_of h1
      obtain ⟨b, off, hba⟩ : ∃ b off, a = ⟨b, off, none⟩ := ⟨_, _, ha⟩
      subst hba
      have ex : ∀ j, ∃ x : Int × Int × Int × Int, j < len → W.cell? ⟨b, off + j * 4, none⟩ = some (.int k0 x.1) ∧ W.cell? ⟨b, off + j * 4 + 1, none⟩ = some (.int k1 x.2.1) ∧ W.cell? ⟨b, off + j * 4 + 2, none⟩ = some (.int k2 x.2.2.1) ∧ W.cell? ⟨b, off + j * 4 + 3, none⟩ = some (.int k3 x.2.2.2) ∧ (Lit.int k0 x.1).wf = true ∧ (Lit.int k1 x.2.1).wf = true ∧ (Lit.int k2 x.2.2.1).wf = true ∧ (Lit.int k3 x.2.2.2).wf = true := by
        intro j
        by_cases hj : j < len
        · obtain ⟨x0, x1, x2, x3, g0, g1, g2, g3, w0, w1, w2, w3⟩ := key j hj
          rw [add_flat] at g0 g1 g2 g3
          rw [add_flat] at g1 g2 g3
          exact ⟨(x0, x1, x2, x3), fun _ => ⟨g0, g1, g2, g3, w0, w1, w2, w3⟩⟩
        · exact ⟨(0, 0, 0, 0), fun h => absurd h hj⟩
      have F := fun j => Classical.choose_spec (ex j)
      refine ⟨len, fun j => (Classical.choose (ex j)).1, fun j => (Classical.choose (ex j)).2.1, fun j => (Classical.choose (ex j)).2.2.1, fun j => (Classical.choose (ex j)).2.2.2, ⟨_, _, rfl, Or.inr ⟨b, off, rfl, fun j hj => ?_⟩⟩, by omega, fun j hj => ?_⟩
      · have := F j hj
        exact ⟨this.1, this.2.1, this.2.2.1, this.2.2.2.1⟩
      · have := F j hj
        exact this.2.2.2.2
end
end Go.Proofs.Ytkeikkkcmackeaa
