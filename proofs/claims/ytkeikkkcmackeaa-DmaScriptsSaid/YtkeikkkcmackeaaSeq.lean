/- A range over a function whose iterator may itself range over a function: what a round keeps is said of blocks by their number. Of whatever program. -/
import Derived.Test.YtkeikkkcmackeaaArr
import Derived.RangeFuncNested
import Derived.RangeFuncBound
import Derived.RangeFuncCalls
import Derived.RangeFuncLeaves
import Derived.Shelf.Abstract
import Derived.OwnWalkIn
import Derived.TacticsInMore
import Derived.LoopNIn
import Derived.LoopIn
import Derived.Sort.QuietIn
namespace Go.Proofs.Ytkeikkkcmackeaa
open Go Go.RowKit

/-- Nothing below n0 has changed, nor any block from B on. -/
structure KB (n0 B : Nat) (W W' : World) : Prop where
  bel : Below n0 W W'
  size : W.heap.size ≤ W'.heap.size
  from_ : ∀ i, B ≤ i → i < W.heap.size → W'.heap[i]? = W.heap[i]?
theorem KB.refl (n0 B : Nat) (W : World) : KB n0 B W W := ⟨Below.refl _ _, Nat.le_refl _, fun _ _ _ => rfl⟩
theorem KB.trans {n0 B : Nat} {a b c : World} (h : KB n0 B a b) (k : KB n0 B b c) : KB n0 B a c :=
  ⟨h.bel.trans k.bel, Nat.le_trans h.size k.size, fun i hi hl => (k.from_ i hi (Nat.lt_of_lt_of_le hl h.size)).trans (h.from_ i hi hl)⟩
theorem KB.up {n0 B B' : Nat} {a b : World} (h : KB n0 B a b) (hB : B ≤ B') : KB n0 B' a b := ⟨h.bel, h.size, fun i hi => h.from_ i (Nat.le_trans hB hi)⟩
/-- What a call that changes nothing of what was there leaves. -/
theorem KB.ofBelow {n0 : Nat} (B : Nat) {a b : World} (h : Below a.heap.size a b) (hn : n0 ≤ a.heap.size) : KB n0 B a b := ⟨h.mono hn, h.size, fun i _ hl => h.block i hl⟩
theorem below_putObj {n0 : Nat} (W : World) (l : Nat) (o : Obj) (hl : n0 ≤ l) (hw : n0 ≤ W.heap.size) : Below n0 W (W.putObj l o) :=
  (Below.refl n0 W).grown (grownBy_putObj' W l o) hw (fun k e => by cases e; exact hl)
theorem size_putObj (W : World) (l : Nat) (o : Obj) : (W.putObj l o).heap.size = W.heap.size := by simp [World.putObj]
theorem KB.putObj {n0 B : Nat} (W : World) (l : Nat) (o : Obj) (h0 : n0 ≤ l) (hB : l < B) (hl : l < W.heap.size) : KB n0 B W (W.putObj l o) :=
  ⟨below_putObj W l o h0 (by omega), by rw [size_putObj]; exact Nat.le_refl _, fun i hi _ => World.putObj_heap_other (by omega)⟩

theorem KB.setCell {n0 B : Nat} {a b : World} (h : KB n0 B a b) {p : Addr} (hp : n0 ≤ p.block) (hB : p.block < B) (v : Value) : KB n0 B a (b.setCell p v) :=
  ⟨h.bel.setCell hp v, by have := h.size; simpa [World.setCell] using this, fun i hi hl => (Below.heap_setCell _ _ _ _ (by omega)).trans (h.from_ i hi hl)⟩
/-- The contract of an iterator. -/
def SeqB {α : Type} (P : Program) (g : Nat) (lb : Array Value) (encs : α → Array Value) (n0 B : Nat) (ok : List α → α → Prop) (S Sp : List α → Prop) (w : World) : Prop :=
  ∀ (l : Nat) (J Jx : List α → World → Prop) (W : World), Below w.heap.size w W → n0 ≤ w.heap.size → B ≤ W.heap.size →
    (∀ pre A B, J pre A → Below W.heap.size A B → J pre B) → (∀ pre A B, Jx pre A → Below W.heap.size A B → Jx pre B) →
    (∀ pre x W1, J pre W1 → ok pre x → W.heap.size ≤ W1.heap.size → YieldAt Fence.wide 0 P l (encs x) W1 fun e W' =>
      (e = .returned (.bool true) ∧ J (pre ++ [x]) W' ∧ KB n0 B W1 W') ∨ (e = .returned (.bool false) ∧ Jx (pre ++ [x]) W' ∧ KB n0 W.heap.size W1 W')) →
    J [] W →
    CallsIn Fence.wide 0 P g (#[.func (.yield l) #[] #[]] ++ lb) W fun e W' => (∃ v, e = .returned v) ∧ ((∃ xs, S xs ∧ J xs W') ∨ (∃ pre, Sp pre ∧ Jx pre W'))

/-- How the body of a round may be left. -/
def bodyB {α : Type} (n0 B0 B : Nat) (I : List α → World → Prop) (Ix : Code → List α → World → Prop) (xs : List α) (W : World) : Exit → Act → World → Prop
  | .normal, _, W' => KB n0 B0 W W' ∧ I xs W'
  | .ret, _, W' => KB n0 B W W' ∧ Ix .ret xs W'
  | .exit id, _, W' => KB n0 B W W' ∧ Ix (.exit id) xs W'
  | .goto t, _, W' => KB n0 B W W' ∧ Ix (.goto t) xs W'
  | .panic _, _, _ => False
  | .outgrown, _, _ => False

theorem wp_rangeB {P : Program} {α : Type} {g : Operand} {ps : Array Tmp} {assign body : Code} {Q : Exit → Act → World → Prop} {a : Act} {w : World}
    {gf : Nat} {lb : Array Value} (hg : a.eval g = .func (.func gf) #[] lb) (eg : ∀ args w, (callFunc gf args).run P w = .ok (.enter gf args) w)
    {encs : α → Array Value} {n0 B0 : Nat} (hB0 : B0 ≤ w.heap.size) {ok : List α → α → Prop} {S Sp : List α → Prop} {w0 : World} (hseq : SeqB P gf lb encs n0 B0 ok S Sp w0)
    (hb0 : Below w0.heap.size w0 w) (hn0 : n0 ≤ w0.heap.size) (hps : ∀ x, (encs x).size = ps.size)
    (I : List α → World → Prop) (Ix : Code → List α → World → Prop) (hI : ∀ pre A B, I pre A → Below w.heap.size A B → I pre B) (hIx : ∀ c pre A B, Ix c pre A → Below w.heap.size A B → Ix c pre B) (h0 : I [] w) (P₁ : α → Act → World → Prop) (hP₁ : ∀ x a' A B, P₁ x a' A → KB n0 (w.heap.size + 2) A B → P₁ x a' B)
    (hassign : ∀ (x : α) (W : World) (K : Act → World → Prop), w.heap.size + 2 ≤ W.heap.size → (∀ a' W', P₁ x a' W' → Below W.heap.size W W' → K a' W') →
      assign.wpIn (Fence.wide.inRound (w.heap.size + 1)) 0 P (Exit.then K (fun _ _ _ => False)) { tmps := (ps.zip (encs x)).foldl (fun t (p, v) => t.setIfInBounds p v) a.tmps, defers := [] } W)
    (hbody : ∀ (pre : List α) (x : α) (a' : Act) (W : World), P₁ x a' W → I pre W → ok pre x → w.heap.size + 2 ≤ W.heap.size → body.wpIn (Fence.wide.inRound (w.heap.size + 1)) 0 P (bodyB n0 B0 w.heap.size I Ix (pre ++ [x]) W) a' W)
    (hdone : ∀ (xs : List α) (W : World), S xs → I xs W → W.heap[w.heap.size]? = some (.deferred (some [])) → Q .normal { a with defers := { target := .collected w.heap.size, args := #[] } :: a.defers } W)
    (hstop : ∀ (c : Code) (pre : List α) (W : World), Sp pre → Ix c pre W → W.heap[w.heap.size]? = some (.deferred (some [])) → c.wpIn Fence.wide 0 P Q { a with defers := { target := .collected w.heap.size, args := #[] } :: a.defers } W) :
    (Code.rangeFunc g ps assign body).wpIn Fence.wide 0 P Q a w := by
  refine wpIn_rangeFunc ?_
  intro fn hfn
  obtain ⟨rec, hrec⟩ : ∃ rec : LoopState → Option Code → Loop, rec = fun st pe => { state := st, pending := pe, fn, tmps := a.tmps, params := ps, assign, body, defers := w.heap.size } := ⟨_, rfl⟩
  obtain ⟨W1, hW1⟩ : ∃ W1, (w.alloc (.deferred (some []))).alloc (.loop (rec .ready none)) = W1 := ⟨_, rfl⟩
  have hL1 : W1.heap[w.heap.size + 1]? = some (.loop (rec .ready none)) := by
    rw [← hW1]; have := World.alloc_heap_new (w.alloc (.deferred (some []))) (.loop (rec .ready none)); rwa [World.size_alloc] at this
  have hK1 : W1.heap[w.heap.size]? = some (.deferred (some [])) := by
    rw [← hW1]; exact (Below.heap_alloc _ _ _ (by simp)).trans (World.alloc_heap_new w _)
  have hs1 : W1.heap.size = w.heap.size + 2 := by rw [← hW1]; simp
  have bw1 : Below w.heap.size w W1 := by rw [← hW1]; exact belowA (belowA (Below.refl _ _) _) _
  have hI1 : I [] W1 := hI _ _ _ h0 bw1
  have hb1 : Below w0.heap.size w0 W1 := hb0.trans (bw1.mono hb0.size)
  refine ⟨w.heap.size + 1, [{ target := .collected w.heap.size, args := #[] }], W1, { target := .fn (.func gf) lb, args := #[.func (.yield (w.heap.size + 1)) #[] #[]] }, W1, gf,
    #[.func (.yield (w.heap.size + 1)) #[] #[]] ++ lb, W1, ?_, ?_, ?_, ?_, fun h => by simp [Fence.wide] at h, ?_⟩
  · rw [← hW1, hrec]; exact run_enterLoop_outer _ _ _ _ _
  · simp only [resolve, hg]
    simp [go_sem]
  · intro f' hf'; trivial
  · simp [invoke, go_sem, eg]
  · refine (hseq (w.heap.size + 1)
      (fun pre W => I pre W ∧ W.heap[w.heap.size + 1]? = some (.loop (rec .ready none)) ∧ W.heap[w.heap.size]? = some (.deferred (some [])) ∧ w.heap.size + 2 ≤ W.heap.size)
      (fun pre W => ∃ c, Ix c pre W ∧ W.heap[w.heap.size + 1]? = some (.loop (rec .done (some c))) ∧ W.heap[w.heap.size]? = some (.deferred (some [])) ∧ w.heap.size + 2 ≤ W.heap.size)
      W1 hb1 hn0 (by omega)
      (fun pre A B ⟨s1, s2, s3, s4⟩ hAB => ⟨hI _ _ _ s1 (hAB.mono (by omega)), (hAB.block _ (by omega)).trans s2, (hAB.block _ (by omega)).trans s3, by
        have h1 := hAB.size; omega⟩)
      (fun pre A B ⟨c, s1, s2, s3, s4⟩ hAB => ⟨c, hIx _ _ _ _ s1 (hAB.mono (by omega)), (hAB.block _ (by omega)).trans s2, (hAB.block _ (by omega)).trans s3, by
        have h1 := hAB.size; omega⟩)
      ?_ ⟨hI1, hL1, hK1, by omega⟩).mono ?_
    · rintro pre x W0 ⟨hi0, hl0, hk0, hsz0⟩ hok hsz2
      have hy := run_yield (P := P) (args := encs x) hl0 (by rw [hrec]; exact hps x)
      rw [hrec] at hy
      refine ⟨fn, _, assign, body, hy, roundIn_of_wpIn hfn (hassign x W0 _ (by omega) fun a' W hp1 hbW => ?_)⟩
      have hi : I pre W := hI _ _ _ hi0 (hbW.mono (by omega))
      have hl : W.heap[w.heap.size + 1]? = some (.loop (rec .ready none)) := (hbW.block _ (by omega)).trans hl0
      have hk : W.heap[w.heap.size]? = some (.deferred (some [])) := (hbW.block _ (by omega)).trans hk0
      have hsz : w.heap.size + 2 ≤ W.heap.size := Nat.le_trans hsz0 hbW.size
      have kb0 : ∀ B, KB n0 B W0 W := fun B => KB.ofBelow B hbW (by have := hb0.size; omega)
      have hlt : w.heap.size + 1 < W.heap.size := (Array.getElem?_eq_some_iff.1 hl).1
      refine ⟨_, run_beginRound hl (by rw [hrec]), ?_⟩
      have hl2 : (W.putObj (w.heap.size + 1) (.loop { rec .ready none with state := .busy })).heap[w.heap.size + 1]? = some (.loop { rec .ready none with state := .busy }) := World.putObj_heap_same hlt
      have hk2 : (W.putObj (w.heap.size + 1) (.loop { rec .ready none with state := .busy })).heap[w.heap.size]? = some (.deferred (some [])) := (World.putObj_heap_other (by omega)).trans hk
      have kb2 : KB n0 (w.heap.size + 2) W (W.putObj (w.heap.size + 1) (.loop { rec .ready none with state := .busy })) := KB.putObj _ _ _ (by have := hb0.size; omega) (by omega) hlt
      have hs2 : (W.putObj (w.heap.size + 1) (.loop { rec .ready none with state := .busy })).heap.size = W.heap.size := size_putObj _ _ _
      refine wpIn_mono (hbody pre x a' _ (hP₁ _ _ _ _ hp1 kb2) (hI _ _ _ hi (below_putObj _ _ _ (by omega) (by omega))) hok (by rw [hs2]; omega)) ?_
      have fin : ∀ (jump : Option Code) (W3 : World), KB n0 w.heap.size (W.putObj (w.heap.size + 1) (.loop { rec .ready none with state := .busy })) W3 →
          (Instr.endRound (w.heap.size + 1) jump).run P W3 = .ok (.bool jump.isNone) (W3.putObj (w.heap.size + 1) (.loop (rec (if jump.isNone then .ready else .done) jump))) ∧
          (W3.putObj (w.heap.size + 1) (.loop (rec (if jump.isNone then .ready else .done) jump))).heap[w.heap.size + 1]? = some (.loop (rec (if jump.isNone then .ready else .done) jump)) ∧
          (W3.putObj (w.heap.size + 1) (.loop (rec (if jump.isNone then .ready else .done) jump))).heap[w.heap.size]? = some (.deferred (some [])) ∧
          Below w.heap.size W3 (W3.putObj (w.heap.size + 1) (.loop (rec (if jump.isNone then .ready else .done) jump))) ∧
          w.heap.size + 2 ≤ (W3.putObj (w.heap.size + 1) (.loop (rec (if jump.isNone then .ready else .done) jump))).heap.size ∧
          KB n0 W1.heap.size W0 (W3.putObj (w.heap.size + 1) (.loop (rec (if jump.isNone then .ready else .done) jump))) := fun jump W3 hk3 => by
        have hl3 : W3.heap[w.heap.size + 1]? = some (.loop { rec .ready none with state := .busy }) := (hk3.from_ _ (by omega) (by rw [hs2]; exact hlt)).trans hl2
        have hd3 : W3.heap[w.heap.size]? = some (.deferred (some [])) := (hk3.from_ _ (by omega) (by rw [hs2]; omega)).trans hk2
        have hz := hk3.size
        rw [hs2] at hz
        have := run_endRound (P := P) jump hl3
        rw [hrec] at this ⊢
        refine ⟨this, World.putObj_heap_same (Array.getElem?_eq_some_iff.1 hl3).1, (World.putObj_heap_other (by omega)).trans hd3, below_putObj _ _ _ (by omega) (by omega), by rw [size_putObj]; omega, ?_⟩
        rw [hs1]
        have k3 := ((kb0 _).trans kb2).trans (hk3.up (by omega))
        exact k3.trans (KB.putObj _ _ _ (by have := hb0.size; omega) (by omega) (by omega))
      rintro e a3 W3 hp
      cases e with
      | normal =>
        obtain ⟨hk0, hi3⟩ := hp
        have hk3 : KB n0 w.heap.size _ W3 := hk0.up hB0
        obtain ⟨hr, hl4, hk4, hb4, hs4, hkb⟩ := fin none W3 hk3
        refine ⟨_, _, hr, .inl ⟨rfl, ⟨hI _ _ _ hi3 hb4, hl4, hk4, hs4⟩, ⟨hkb.bel, hkb.size, fun i hi1 hi2 => ?_⟩⟩⟩
        by_cases e : i = w.heap.size + 1
        · subst e
          rw [hl0]
          exact hl4
        · rw [World.putObj_heap_other e, hk0.from_ i hi1 (by rw [hs2]; exact Nat.lt_of_lt_of_le hi2 hbW.size), World.putObj_heap_other e, hbW.block i hi2]
      | ret =>
        obtain ⟨hk3, hi3⟩ := hp
        obtain ⟨hr, hl4, hk4, hb4, hs4, hkb⟩ := fin (some .ret) W3 hk3
        exact ⟨_, _, hr, .inr ⟨rfl, ⟨.ret, hIx _ _ _ _ hi3 hb4, hl4, hk4, hs4⟩, hkb⟩⟩
      | exit id =>
        obtain ⟨hk3, hi3⟩ := hp
        obtain ⟨hr, hl4, hk4, hb4, hs4, hkb⟩ := fin (some (.exit id)) W3 hk3
        exact ⟨_, _, hr, .inr ⟨rfl, ⟨.exit id, hIx _ _ _ _ hi3 hb4, hl4, hk4, hs4⟩, hkb⟩⟩
      | goto t =>
        obtain ⟨hk3, hi3⟩ := hp
        obtain ⟨hr, hl4, hk4, hb4, hs4, hkb⟩ := fin (some (.goto t)) W3 hk3
        exact ⟨_, _, hr, .inr ⟨rfl, ⟨.goto t, hIx _ _ _ _ hi3 hb4, hl4, hk4, hs4⟩, hkb⟩⟩
      | panic ch => exact hp.elim
      | outgrown => exact hp.elim
    · rintro e W2 ⟨⟨v, rfl⟩, (⟨xs, hS, hi, hl, hk, hs⟩ | ⟨pre, hSp, c, hi, hl, hk, hs⟩)⟩
      · exact ⟨none, _, by have := run_endLoop (P := P) hl (by rw [hrec]; simp); rw [hrec] at this; exact this, hdone xs _ hS (hI _ _ _ hi (below_putObj _ _ _ (by omega) (by omega))) ((World.putObj_heap_other (by omega)).trans hk)⟩
      · exact ⟨some c, _, by have := run_endLoop (P := P) hl (by rw [hrec]; simp); rw [hrec] at this; exact this, hstop c pre _ hSp (hIx c _ _ _ hi (below_putObj _ _ _ (by omega) (by omega))) ((World.putObj_heap_other (by omega)).trans hk)⟩
/-! A region that draws its order, in a round: as outside of one. -/
def noDefer (l : List Oper) : Bool := l.all fun o => match o.op with | .defer _ => false | _ => true
theorem opIn_round {P : Program} {o : Oper} {a : Act} {w : World} {K : Act → World → Prop} {Q : Exit → Act → World → Prop} {l : Nat} (hd : ∀ c, o.op ≠ .defer c) (h : o.wpIn Fence.wide 0 P a w K Q) : o.wpIn (Fence.wide.inRound l) 0 P a w K Q := by
  unfold Oper.wpIn at *
  refine ⟨fun _ _ => trivial, ?_⟩
  have h2 := h.2
  have e : o.semAt (Fence.wide.inRound l).round a.eval = o.semAt Fence.wide.round a.eval := by
    rw [Fence.inRound_round, Oper.semAt_some l a.eval o hd]
    show _ = o.semAt none a.eval
    unfold Oper.semAt
    rfl
  rw [e]
  exact h2
theorem wpAnyIn_round {P : Program} {ops : Array Oper} {Q : Exit → Act → World → Prop} {md : Region.Mode} {l : Nat} (hd : ∀ (i : Nat) (o : Oper), ops[i]? = some o → ∀ c, o.op ≠ .defer c) :
    ∀ (fuel : Nat) (listed : Array Bool) (a : Act) (w : World), wpAnyIn Fence.wide 0 P md ops Q fuel listed a w → wpAnyIn (Fence.wide.inRound l) 0 P md ops Q fuel listed a w := by
  intro fuel
  induction fuel with
  | zero => intro listed a w h; exact h
  | succ fuel ih =>
    intro listed a w h
    refine ⟨h.1, fun i hi => ?_⟩
    have hh := h.2 i hi
    refine wpOpIn_mono (K := wpAnyIn Fence.wide 0 P md ops Q fuel (listed.setIfInBounds i true)) (fun a w k => ih _ a w k) ?_
    unfold wpOpIn at *
    cases ho : ops[i]? with
    | none => rw [ho] at hh; exact hh
    | some o =>
      rw [ho] at hh
      simp only at hh ⊢
      split
      · rename_i hw
        rw [if_pos hw] at hh
        exact opIn_round (hd i o ho) hh
      · rename_i hw
        rw [if_neg hw] at hh
        exact ⟨fun _ _ => trivial, hh.2⟩
theorem wpIn_region_round {P : Program} {id l : Nat} {Q : Exit → Act → World → Prop} {a : Act} {w : World} {ops : List Oper} (hd : noDefer ops = true) (hm : P.follows .mixedOrders = true) (hB : Region.lexB .any ops.toArray = true)
    (h : wpQuietIn Fence.wide 0 P ops.toArray (fun w' => ∃ x, w' = moreOf w x) (fun a' => ∀ w', (∃ x, w' = moreOf w x) → Q .normal a' w') ops a) : (Code.region id ops.toArray true).wpIn (Fence.wide.inRound l) 0 P Q a w := by
  simp only [Region.lexB, Bool.and_eq_true] at hB
  refine wpIn_region_any hm (wpAnyIn_round ?_ _ _ _ _ (wpAnyIn_of_quiet (C := fun w' => ∃ x, w' = moreOf w x) (Q := fun a' => ∀ w', (∃ x, w' = moreOf w x) → Q .normal a' w') rfl (fun _ w' hw' h => h w' hw') _ _ _ _ ⟨⟨#[], w.drawn + 1⟩, by simp [moreOf]⟩ ?_))
  · intro i o ho c e
    have hmem : o ∈ ops := List.mem_of_getElem? (by simpa using ho)
    have := List.all_eq_true.mp hd o hmem
    rw [e] at this
    cases this
  · have := wpAnyQIn_lex (F := Fence.wide) (n := 0) (C := fun w' => ∃ x, w' = moreOf w x) (md := .any) hB.1 ops.toArray.toList 0 (Array.replicate ops.toArray.size false) a (by simp) (by simpa using hB.2) (by simpa using h)
    simpa using this
theorem quiet_moreIn {P : Program} {f : FuncId} {args : Array Value} {w : World} {x : Ext} {v : Value}
    (h : Calls P f args (moreOf w x) fun e w' => e = .returned v ∧ Below (moreOf w x).heap.size (moreOf w x) w') : CallsIn Fence.wide 0 P f args (moreOf w x) fun e w'' => e = .returned v ∧ ∃ y, w'' = moreOf w y :=
  callsIn_wide.2 (quiet_more h)
end Go.Proofs.Ytkeikkkcmackeaa
