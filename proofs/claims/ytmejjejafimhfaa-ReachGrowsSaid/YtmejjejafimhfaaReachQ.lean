/- Each course is a tree of accesses. No program. -/
import Derived.Test.YtmejjejafimhfaaReachP
import Derived.Test.YtmejjejafimhfaaReachU
namespace Go.Proofs.Ytmejjejafimhfaa
set_option linter.unusedVariables false

/-- What a function of a walker does is a tree's run, of at most n accesses. -/
def IsTr {α : Type} (n : Nat) (f : St → α × St) : Prop :=
  ∀ r, ∃ t : Tr (α × Rg), t.Len n ∧ ∀ bs L st, f ⟨r, bs, L, st⟩ = ((t.run ⟨bs, L, st⟩).1.1, ⟨(t.run ⟨bs, L, st⟩).1.2, (t.run ⟨bs, L, st⟩).2.bs, (t.run ⟨bs, L, st⟩).2.L, (t.run ⟨bs, L, st⟩).2.st⟩)
theorem IsTr.up {α : Type} {n m : Nat} {f : St → α × St} (h : IsTr n f) (k : n ≤ m) : IsTr m f := by
  intro r
  obtain ⟨t, a, b⟩ := h r
  exact ⟨t, a.up k, b⟩
theorem IsTr.bind {α β : Type} {n m : Nat} {f : St → α × St} {g : α → St → β × St} (h : IsTr n f) (hg : ∀ a, IsTr m (g a)) : IsTr (n + m) (fun s => g (f s).1 (f s).2) := by
  intro r
  obtain ⟨t, a, b⟩ := h r
  have hc : ∀ q : α × Rg, ∃ t : Tr (β × Rg), t.Len m ∧ ∀ bs L st, g q.1 ⟨q.2, bs, L, st⟩ = ((t.run ⟨bs, L, st⟩).1.1, ⟨(t.run ⟨bs, L, st⟩).1.2, (t.run ⟨bs, L, st⟩).2.bs, (t.run ⟨bs, L, st⟩).2.L, (t.run ⟨bs, L, st⟩).2.st⟩) := fun q => hg q.1 q.2
  refine ⟨t.bind fun q => Classical.choose (hc q), a.bind fun q => (Classical.choose_spec (hc q)).1, ?_⟩
  intro bs L st
  show g (f ⟨r, bs, L, st⟩).1 (f ⟨r, bs, L, st⟩).2 = _
  rw [b, Tr.run_bind]
  exact (Classical.choose_spec (hc (t.run ⟨bs, L, st⟩).1)).2 _ _ _
theorem IsTr.pure {α : Type} (a : Rg → α) (k : Rg → Rg) : IsTr 0 (fun s => (a s.r, (⟨k s.r, s.bs, s.L, s.st⟩ : St))) := by
  intro r
  exact ⟨.ret (a r, k r), .ret _ _, fun bs L st => rfl⟩
theorem IsTr.ret {α : Type} (a : α) : IsTr 0 (fun s => (a, s)) := by
  intro r
  exact ⟨.ret (a, r), .ret _ _, fun bs L st => rfl⟩
theorem IsTr.get {α : Type} {n : Nat} {g : Rg → St → α × St} (h : ∀ r, IsTr n (g r)) : IsTr n (fun s => g s.r s) := by
  intro r
  exact h r r
theorem IsTr.ite {α : Type} {n : Nat} {P : Prop} [Decidable P] {f g : St → α × St} (h : IsTr n f) (k : IsTr n g) : IsTr n (fun s => if P then f s else g s) := by
  by_cases c : P
  · simpa only [c, if_true] using h
  · simpa only [c, if_false] using k
theorem tRead (ad : Int) : IsTr 1 (mRead ad) := by
  intro r
  exact ⟨.read ad fun b => .ret (b, r), .read _ _ _ fun b => .ret _ _, fun bs L st => rfl⟩
theorem tIdle {α : Type} (a : α) : IsTr 1 (fun s => (a, mIdle s)) := by
  intro r
  exact ⟨.idle (.ret (a, r)), .idle _ _ (.ret _ _), fun bs L st => rfl⟩
theorem tPc {α : Type} (a : α) : IsTr 0 (fun s => (a, mPc s)) := IsTr.pure (fun _ => a) fun r => { r with pc := (r.pc + 1) % 65536 }
theorem tFetch : IsTr 1 mFetch := (IsTr.get fun r => tRead (r.k * 65536 + r.pc)).bind (g := fun b s => (b, mPc s)) fun b => tPc b
theorem tFetch16 : IsTr 2 mFetch16 := tFetch.bind (g := fun a s => (a + (mFetch s).1 * 256, (mFetch s).2)) fun a => tFetch.bind (g := fun b s => (a + b * 256, s)) fun b => IsTr.ret _
theorem tFetch24 : IsTr 3 mFetch24 := tFetch16.bind (g := fun a s => (a + (mFetch s).1 * 65536, (mFetch s).2)) fun a => tFetch.bind (g := fun b s => (a + b * 65536, s)) fun b => IsTr.ret _
theorem tPage {α : Type} (a : α) : IsTr 1 (fun s => (a, mPage s)) := by
  have h : IsTr 1 (fun s : St => (fun (r : Rg) (s : St) => if r.d % 256 = 0 then (a, s) else (a, mIdle s)) s.r s) :=
    IsTr.get (g := fun (r : Rg) (s : St) => if r.d % 256 = 0 then (a, s) else (a, mIdle s)) fun r => IsTr.ite ((IsTr.ret a).up (by omega)) (tIdle a)
  intro r
  obtain ⟨t, k1, k2⟩ := h r
  refine ⟨t, k1, fun bs L st => ?_⟩
  rw [← k2]
  show (a, mPage ⟨r, bs, L, st⟩) = if r.d % 256 = 0 then (a, ⟨r, bs, L, st⟩) else (a, mIdle ⟨r, bs, L, st⟩)
  unfold mPage
  split <;> rfl
theorem tPointer (o : Int) : IsTr 2 (mPointer o) :=
  (IsTr.get fun r => tRead (directOf r.d r.e o)).bind (n := 1) (m := 1) (g := fun a s => (a + (mRead (directOf s.r.d s.r.e ((o + 1) % 4294967296)) s).1 * 256, (mRead (directOf s.r.d s.r.e ((o + 1) % 4294967296)) s).2))
    fun a => (IsTr.get fun r => tRead (directOf r.d r.e ((o + 1) % 4294967296))).bind (n := 1) (m := 0) (g := fun b s => (a + b * 256, s)) fun b => IsTr.ret _
theorem tOffset : IsTr 2 mOffset := tFetch.bind (g := fun a s => (a, mPage s)) fun a => tPage a
theorem tInd : IsTr 4 mInd :=
  tOffset.bind (n := 2) (m := 2) (g := fun a s => (bankOf (mPointer a s).2.r (mPointer a s).1, (mPointer a s).2)) fun a => (tPointer a).bind (n := 2) (m := 0) (g := fun b s => (bankOf s.r b, s)) fun b => IsTr.pure (fun r => bankOf r b) fun r => r
theorem tIndexed (u a : Int) (i : Rg → Int) : IsTr 1 (fun s => mIndexed u a (i s.r) s) := by
  have h : IsTr 1 (fun s : St => (fun (r : Rg) (s : St) => if u = 2 ∨ 3 ≤ u ∨ r.p / 16 % 2 = 0 ∨ a / 256 ≠ ((a + i r) % 16777216) / 256 then ((a + i r) % 16777216, mIdle s) else ((a + i r) % 16777216, s)) s.r s) :=
    IsTr.get (g := fun (r : Rg) (s : St) => if u = 2 ∨ 3 ≤ u ∨ r.p / 16 % 2 = 0 ∨ a / 256 ≠ ((a + i r) % 16777216) / 256 then ((a + i r) % 16777216, mIdle s) else ((a + i r) % 16777216, s)) fun r => IsTr.ite (tIdle _) ((IsTr.ret _).up (by omega))
  intro r
  obtain ⟨t, k1, k2⟩ := h r
  refine ⟨t, k1, fun bs L st => ?_⟩
  rw [← k2]
  simp only [mIndexed]
  split <;> rfl
theorem tIndX : IsTr 5 mIndX :=
  tOffset.bind (n := 2) (m := 3) (g := fun a s => (bankOf (mPointer (a + s.r.x) (mIdle s)).2.r (mPointer (a + s.r.x) (mIdle s)).1, (mPointer (a + s.r.x) (mIdle s)).2)) fun a =>
    IsTr.get (g := fun r s => (bankOf (mPointer (a + r.x) (mIdle s)).2.r (mPointer (a + r.x) (mIdle s)).1, (mPointer (a + r.x) (mIdle s)).2)) fun r =>
    (tIdle ()).bind (n := 1) (m := 2) (g := fun _ s => (bankOf (mPointer (a + r.x) s).2.r (mPointer (a + r.x) s).1, (mPointer (a + r.x) s).2)) fun _ =>
    (tPointer (a + r.x)).bind (n := 2) (m := 0) (g := fun b s => (bankOf s.r b, s)) fun b => IsTr.pure (fun r => bankOf r b) fun r => r
theorem tIndY (u : Int) : IsTr 5 (mIndY u) := tInd.bind (n := 4) (m := 1) (g := fun a s => mIndexed u a s.r.y s) fun a => tIndexed u a fun r => r.y
theorem tIndL : IsTr 5 mIndL :=
  tOffset.bind (n := 2) (m := 3) (g := fun a s => ((mPointer a s).1 + (mRead (directOf (mPointer a s).2.r.d (mPointer a s).2.r.e (a + 2)) (mPointer a s).2).1 * 65536, (mRead (directOf (mPointer a s).2.r.d (mPointer a s).2.r.e (a + 2)) (mPointer a s).2).2)) fun a =>
    (tPointer a).bind (n := 2) (m := 1) (g := fun b s => (b + (mRead (directOf s.r.d s.r.e (a + 2)) s).1 * 65536, (mRead (directOf s.r.d s.r.e (a + 2)) s).2)) fun b =>
    (IsTr.get fun r => tRead (directOf r.d r.e (a + 2))).bind (n := 1) (m := 0) (g := fun c s => (b + c * 65536, s)) fun c => IsTr.ret _
theorem tIndLY : IsTr 5 mIndLY := tIndL.bind (n := 5) (m := 0) (g := fun a s => ((a + s.r.y) % 16777216, s)) fun a => IsTr.pure (fun r => (a + r.y) % 16777216) fun r => r
theorem tAbs : IsTr 2 mAbs := tFetch16.bind (n := 2) (m := 0) (g := fun a s => (bankOf s.r a, s)) fun a => IsTr.pure (fun r => bankOf r a) fun r => r
theorem tAbsX (u : Int) : IsTr 3 (mAbsX u) := tAbs.bind (n := 2) (m := 1) (g := fun a s => mIndexed u a s.r.x s) fun a => tIndexed u a fun r => r.x
theorem tAbsY (u : Int) : IsTr 3 (mAbsY u) := tAbs.bind (n := 2) (m := 1) (g := fun a s => mIndexed u a s.r.y s) fun a => tIndexed u a fun r => r.y
theorem tLongX : IsTr 3 mLongX := tFetch24.bind (n := 3) (m := 0) (g := fun a s => ((a + s.r.x) % 16777216, s)) fun a => IsTr.pure (fun r => (a + r.x) % 16777216) fun r => r
theorem tDirect (m : Int) : IsTr 3 (mDirect m) := by
  have h : IsTr 3 (fun s : St => (fun (r : Rg) (s : St) => (fun (o : Int) (s : St) => if m = 6 then (directOf r.d r.e (o + r.x), mIdle s) else (if m = 7 then (directOf r.d r.e (o + r.y), mIdle s) else (directOf r.d r.e o, s))) (mOffset s).1 (mOffset s).2) s.r s) :=
    IsTr.get fun r => tOffset.bind (n := 2) (m := 1) (g := fun (o : Int) (s : St) => if m = 6 then (directOf r.d r.e (o + r.x), mIdle s) else (if m = 7 then (directOf r.d r.e (o + r.y), mIdle s) else (directOf r.d r.e o, s))) fun o => IsTr.ite (tIdle _) (IsTr.ite (tIdle _) ((IsTr.ret _).up (by omega)))
  exact h
theorem tStack (m : Int) : IsTr 5 (mStack m) := by
  have h : IsTr 5 (fun s : St => (fun (r : Rg) (s : St) => (fun (o : Int) (s : St) => if m = 21 then (((r.s + o) % 65536, true), mIdle s) else
      (((bankOf r ((mRead ((r.s + o) % 65536) (mIdle s)).1 + (mRead (nextOf ((r.s + o) % 65536) true) (mRead ((r.s + o) % 65536) (mIdle s)).2).1 * 256) + r.y) % 16777216, false), mIdle (mRead (nextOf ((r.s + o) % 65536) true) (mRead ((r.s + o) % 65536) (mIdle s)).2).2)) (mFetch s).1 (mFetch s).2) s.r s) := by
    refine IsTr.get fun r => tFetch.bind (n := 1) (m := 4) (g := fun (o : Int) (s : St) => if m = 21 then (((r.s + o) % 65536, true), mIdle s) else
      (((bankOf r ((mRead ((r.s + o) % 65536) (mIdle s)).1 + (mRead (nextOf ((r.s + o) % 65536) true) (mRead ((r.s + o) % 65536) (mIdle s)).2).1 * 256) + r.y) % 16777216, false), mIdle (mRead (nextOf ((r.s + o) % 65536) true) (mRead ((r.s + o) % 65536) (mIdle s)).2).2)) fun o => IsTr.ite ((tIdle _).up (by omega)) ?_
    exact (tIdle ()).bind (n := 1) (m := 3) (g := fun _ s => (((bankOf r ((mRead ((r.s + o) % 65536) s).1 + (mRead (nextOf ((r.s + o) % 65536) true) (mRead ((r.s + o) % 65536) s).2).1 * 256) + r.y) % 16777216, false), mIdle (mRead (nextOf ((r.s + o) % 65536) true) (mRead ((r.s + o) % 65536) s).2).2)) fun _ =>
      (tRead _).bind (n := 1) (m := 2) (g := fun a s => (((bankOf r (a + (mRead (nextOf ((r.s + o) % 65536) true) s).1 * 256) + r.y) % 16777216, false), mIdle (mRead (nextOf ((r.s + o) % 65536) true) s).2)) fun a =>
      (tRead _).bind (n := 1) (m := 1) (g := fun b s => (((bankOf r (a + b * 256) + r.y) % 16777216, false), mIdle s)) fun b => tIdle _
  exact h
theorem tAt {n : Nat} {f : St → Int × St} (b : Bool) (h : IsTr n f) : IsTr n (fun s => (((f s).1, b), (f s).2)) :=
  h.bind (m := 0) (g := fun a s => ((a, b), s)) fun a => IsTr.ret _
theorem tReach (m u : Int) : IsTr 8 (mReach m u) := by
  have h : IsTr 8 (fun s => if m = 5 ∨ m = 6 ∨ m = 7 then (((mDirect m s).1, true), (mDirect m s).2) else if m = 8 then (((mInd s).1, false), (mInd s).2) else if m = 10 then (((mIndX s).1, false), (mIndX s).2) else if m = 11 then (((mIndY u s).1, false), (mIndY u s).2)
      else if m = 9 then (((mIndL s).1, false), (mIndL s).2) else if m = 12 then (((mIndLY s).1, false), (mIndLY s).2) else if m = 13 then (((mAbs s).1, false), (mAbs s).2) else if m = 14 then (((mAbsX u s).1, false), (mAbsX u s).2) else if m = 15 then (((mAbsY u s).1, false), (mAbsY u s).2)
      else if m = 16 then (((mFetch24 s).1, false), (mFetch24 s).2) else if m = 17 then (((mLongX s).1, false), (mLongX s).2) else if m = 21 ∨ m = 22 then mStack m s else ((0, false), s)) :=
    ((tAt true (tDirect m)).up (by omega)).ite <| ((tAt false tInd).up (by omega)).ite <| ((tAt false tIndX).up (by omega)).ite <| ((tAt false (tIndY u)).up (by omega)).ite <| ((tAt false tIndL).up (by omega)).ite <| ((tAt false tIndLY).up (by omega)).ite <| ((tAt false tAbs).up (by omega)).ite <|
      ((tAt false (tAbsX u)).up (by omega)).ite <| ((tAt false (tAbsY u)).up (by omega)).ite <| ((tAt false tFetch24).up (by omega)).ite <| ((tAt false tLongX).up (by omega)).ite <| ((tStack m).up (by omega)).ite <| (IsTr.ret _).up (by omega)
  exact h
/-- What a course ends with: its accesses, its place, its pc, whether it is known. -/
structure Crs (bs : List Int) (t : Tr ((Int × Bool) × Rg)) (F : (Int × Bool) × St) : Prop where
  acc : F.2.L = (t.out bs).1
  stk : F.2.st = (t.out bs).2.isNone
theorem course_tree (m u : Int) (r : Rg) : ∃ t : Tr ((Int × Bool) × Rg), t.Len 8 ∧ ∀ bs, Crs bs t (mReach m u ⟨r, bs, [], false⟩) := by
  obtain ⟨t, h1, h2⟩ := tReach m u r
  refine ⟨t, h1, fun bs => ?_⟩
  obtain ⟨k1, k2, _⟩ := Tr.run_out h1 bs [] (by simp)
  rw [h2]
  exact ⟨by simpa using k1, by simpa using k2⟩
end Go.Proofs.Ytmejjejafimhfaa
