/- A region that draws its order: each operation is looked at ONCE, whatever has run before it: by what it yields ('S i v w': a predicate, kept by whatever the others do), a class of worlds 'C', and an evolution 'Ev'. Of whatever program. Guards: 'wanted' is asked where the operation comes up. -/
import Derived.Test.YtkeikkkcmackeaaArr
import Derived.Orders
namespace Go.Proofs.Ytkeikkkcmackeaa
open Go.RowKit

/-- The frame: the slots of 'ds' hold what 'us' says, the others what they held. -/
def fill (ds : List Nat) (us : Nat → Value) : Nat → List Value → List Value
  | _, [] => []
  | k, x :: xs => (if ds.contains k then us k else x) :: fill ds us (k + 1) xs
theorem fill_at (ds : List Nat) (us : Nat → Value) : ∀ (xs : List Value) (k i : Nat), (fill ds us k xs)[i]? = (xs[i]?).map (fun x => if ds.contains (k + i) then us (k + i) else x)
  | [], k, i => by simp [fill]
  | x :: xs, k, 0 => by simp [fill]
  | x :: xs, k, i + 1 => by
    simp only [fill, List.getElem?_cons_succ]
    rw [fill_at ds us xs (k + 1) i, show k + 1 + i = k + (i + 1) by omega]
def updU (us : Nat → Value) (d : Nat) (v : Value) : Nat → Value := fun k => if k = d then v else us k
theorem fill_set (ds : List Nat) (us : Nat → Value) (xs : List Value) (d : Nat) (hd : ds.contains d = true) (v : Value) : (fill ds us 0 xs).toArray.setIfInBounds d v = (fill ds (updU us d v) 0 xs).toArray := by
  apply Array.ext_getElem?
  intro i
  rw [Array.getElem?_setIfInBounds]
  simp only [List.getElem?_toArray, fill_at, Nat.zero_add, List.size_toArray]
  by_cases e : d = i
  · subst e
    rw [if_pos rfl]
    have hl : (fill ds us 0 xs).length = xs.length := by
      have : ∀ (ys : List Value) (k : Nat), (fill ds us k ys).length = ys.length := by
        intro ys
        induction ys with
        | nil => intro k; rfl
        | cons y ys ih => intro k; simp [fill, ih]
      exact this xs 0
    rw [hl]
    by_cases h : d < xs.length
    · have hd' : d ∈ ds := by simpa using hd
      simp [h, hd', updU]
    · simp [h]
  · rw [if_neg e]
    congr 1
    funext x
    simp [updU, Ne.symm e]
theorem fill_self (ds : List Nat) (xs : List Value) : fill ds (fun k => xs.getD k undef) 0 xs = xs := by
  apply List.ext_getElem?
  intro i
  rw [fill_at]
  cases h : xs[i]? with
  | none => rfl
  | some x => simp [h]
def valU (us : Nat → Value) : Option Tmp → Value
  | some d => us d
  | none => undef

section
variable {P : Program}
/-- What an operation waits for has yielded. -/
def depVals (ops : List Oper) (us : Nat → Value) : List Edge → List Value
  | [] => []
  | e :: es => if Region.binds .any e = true then (match ops[e.on]? with | some oj => valU us oj.dst | none => undef) :: depVals ops us es else depVals ops us es
def depsOf (ops : List Oper) (S : Nat → Value → List Value → World → Prop) (us : Nat → Value) (w : World) : List Edge → Prop
  | [] => True
  | e :: es => ((Region.binds .any e = true) → match ops[e.on]? with | some oj => S e.on (valU us oj.dst) (depVals ops us oj.after.toList) w | none => True) ∧ depsOf ops S us w es
/-- What an operation leaves. -/
def Left (C : World → Prop) (S : Nat → Value → List Value → World → Prop) (Ev : World → World → Prop) (i : Nat) (vs : List Value) (a : Act) (d : Option Tmp) (w : World) (a' : Act) (w' : World) : Prop :=
  ∃ v, a' = a.put d v ∧ C w' ∧ S i (if d.isSome then v else undef) vs w' ∧ Ev w w'
def stepOf (P : Program) (ops : List Oper) (C : World → Prop) (S : Nat → Value → List Value → World → Prop) (Ev : World → World → Prop) (i : Nat) (o : Oper) (us : Nat → Value) (a : Act) (w : World) (Q : Exit → Act → World → Prop) : Prop :=
  if Region.wanted o (yielded ops.toArray a.tmps) then o.wp P a w (Left C S Ev i (depVals ops us o.after.toList) a o.dst w) Q
  else Left C S Ev i (depVals ops us o.after.toList) a o.dst w (a.put o.dst undef) w
def stepsOf (P : Program) (ops : List Oper) (C : World → Prop) (S : Nat → Value → List Value → World → Prop) (Ev : World → World → Prop) (xs : List Value) (df : List Deferred) (Q : Exit → Act → World → Prop) : Nat → List Oper → Prop
  | _, [] => True
  | i, o :: rest => (∀ us w, C w → depsOf ops S us w o.after.toList → stepOf P ops C S Ev i o us ⟨(fill (ops.filterMap (·.dst)) us 0 xs).toArray, df⟩ w Q) ∧ stepsOf P ops C S Ev xs df Q (i + 1) rest
def allOf (ops : List Oper) (S : Nat → Value → List Value → World → Prop) (us : Nat → Value) (w : World) : Nat → List Oper → Prop
  | _, [] => True
  | i, o :: rest => S i (valU us o.dst) (depVals ops us o.after.toList) w ∧ allOf ops S us w (i + 1) rest
/-- The closed facts: the slots are all different, each waits for earlier ones only. -/
def fitsB (ops : List Oper) : Bool :=
  decide (ops.filterMap (·.dst)).Nodup && (List.range ops.length).all fun i => match ops[i]? with | none => true | some o => o.after.all fun e => !Region.binds .any e || decide (e.on < i)

variable {ops : List Oper} {C : World → Prop} {S : Nat → Value → List Value → World → Prop} {Ev : World → World → Prop} {xs : List Value} {df : List Deferred} {Q : Exit → Act → World → Prop}

theorem depsOf_mk {us : Nat → Value} {w : World} : ∀ (l : List Edge), (∀ e ∈ l, Region.binds .any e = true → ∀ oj, ops[e.on]? = some oj → S e.on (valU us oj.dst) (depVals ops us oj.after.toList) w) → depsOf ops S us w l
  | [], _ => trivial
  | e :: es, h => ⟨fun hb => by
      have := h e (by simp) hb
      cases ho : ops[e.on]? with
      | none => trivial
      | some oj => exact this oj ho, depsOf_mk es fun e' he => h e' (by simp [he])⟩
theorem stepsOf_at : ∀ (l : List Oper) (k i : Nat) (o : Oper), stepsOf P ops C S Ev xs df Q k l → l[i]? = some o →
    ∀ us w, C w → depsOf ops S us w o.after.toList → stepOf P ops C S Ev (k + i) o us ⟨(fill (ops.filterMap (·.dst)) us 0 xs).toArray, df⟩ w Q
  | [], _, _, _, _, h => by simp at h
  | o' :: rest, k, 0, o, h, ho => by
    simp at ho
    subst ho
    exact h.1
  | o' :: rest, k, i + 1, o, h, ho => by
    have := stepsOf_at rest (k + 1) i o h.2 (by simpa using ho)
    rw [show k + 1 + i = k + (i + 1) by omega] at this
    exact this
theorem allOf_mk {us : Nat → Value} {w : World} : ∀ (l : List Oper) (k : Nat), (∀ (i : Nat) (o : Oper), l[i]? = some o → S (k + i) (valU us o.dst) (depVals ops us o.after.toList) w) → allOf ops S us w k l
  | [], _, _ => trivial
  | o :: rest, k, h => ⟨h 0 o (by simp), allOf_mk rest (k + 1) fun i o' ho => by
      have := h (i + 1) o' (by simpa using ho)
      rwa [show k + (i + 1) = k + 1 + i by omega] at this⟩

theorem nodup_filterMap {α β : Type} (f : α → Option β) : ∀ (l : List α), (l.filterMap f).Nodup → ∀ (i j : Nat) (a b : α) (d : β), l[i]? = some a → l[j]? = some b → f a = some d → f b = some d → i = j
  | [], _, i, j, a, b, d, h, _, _, _ => by simp at h
  | x :: l, hn, 0, 0, a, b, d, _, _, _, _ => rfl
  | x :: l, hn, 0, j + 1, a, b, d, ha, hb, fa, fb => by
    simp at ha hb
    subst ha
    rw [List.filterMap_cons_some fa] at hn
    exact absurd (List.mem_filterMap.2 ⟨b, List.mem_of_getElem? hb, fb⟩) (List.nodup_cons.1 hn).1
  | x :: l, hn, i + 1, 0, a, b, d, ha, hb, fa, fb => by
    simp at ha hb
    subst hb
    rw [List.filterMap_cons_some fb] at hn
    exact absurd (List.mem_filterMap.2 ⟨a, List.mem_of_getElem? ha, fa⟩) (List.nodup_cons.1 hn).1
  | x :: l, hn, i + 1, j + 1, a, b, d, ha, hb, fa, fb => by
    simp at ha hb
    have hn' : (l.filterMap f).Nodup := by
      cases hx : f x with
      | none => rwa [List.filterMap_cons_none hx] at hn
      | some y => rw [List.filterMap_cons_some hx] at hn; exact (List.nodup_cons.1 hn).2
    rw [nodup_filterMap f l hn' i j a b d ha hb fa fb]

/-- An operation without a guard. -/
theorem stepOf_plain {i : Nat} {o : Oper} {us : Nat → Value} {a : Act} {w : World} (hg : o.guard = none) (h : o.wp P a w (Left C S Ev i (depVals ops us o.after.toList) a o.dst w) Q) : stepOf P ops C S Ev i o us a w Q := by
  unfold stepOf
  rw [if_pos (by simp [Region.wanted, hg])]
  exact h
/-- One whose guard is met, one whose is not. -/
theorem stepOf_yes {i : Nat} {o : Oper} {us : Nat → Value} {a : Act} {w : World} (hg : Region.wanted o (yielded ops.toArray a.tmps) = true) (h : o.wp P a w (Left C S Ev i (depVals ops us o.after.toList) a o.dst w) Q) : stepOf P ops C S Ev i o us a w Q := by
  unfold stepOf
  rw [if_pos hg]
  exact h
theorem stepOf_no {i : Nat} {o : Oper} {us : Nat → Value} {a : Act} {w : World} (hg : Region.wanted o (yielded ops.toArray a.tmps) = false) (h : Left C S Ev i (depVals ops us o.after.toList) a o.dst w (a.put o.dst undef) w) : stepOf P ops C S Ev i o us a w Q := by
  unfold stepOf
  rw [if_neg (by simp [hg])]
  exact h

/-- The law. -/
theorem wp_region_rel {id : Nat} {w0 : World} (hm : P.follows .mixedOrders = true) (hf : fitsB ops = true)
    (hmono : ∀ i v vs w w', S i v vs w → Ev w w' → S i v vs w') (hC : C w0.drew)
    (hstep : stepsOf P ops C S Ev xs df Q 0 ops)
    (hfin : ∀ us w, C w → allOf ops S us w 0 ops → Q .normal ⟨(fill (ops.filterMap (·.dst)) us 0 xs).toArray, df⟩ w) :
    (Code.region id ops.toArray true).wp P Q ⟨xs.toArray, df⟩ w0 := by
  refine wp_region_any hm ?_
  simp only [fitsB, Bool.and_eq_true, decide_eq_true_eq, List.all_eq_true, List.mem_range] at hf
  obtain ⟨hnd, hall⟩ := hf
  have hg : ∀ (i : Nat) (o : Oper), ops[i]? = some o → ∀ e ∈ o.after, Region.binds .any e = true → e.on < i := by
    intro i o ho e he hbe
    have hi : i < ops.length := (List.getElem?_eq_some_iff.1 ho).1
    have := hall i hi
    rw [ho] at this
    simp only [Array.all_eq_true_iff_forall_mem] at this
    have h := this e he
    rw [hbe] at h
    simpa using h
  have key : ∀ (fuel : Nat) (listed : Array Bool) (us : Nat → Value) (w : World), listed.size = ops.length → C w → (∀ (i : Nat) (o : Oper), ops[i]? = some o → listed.getD i true = true → S i (valU us o.dst) (depVals ops us o.after.toList) w) →
      (∀ (i : Nat) (o : Oper), ops[i]? = some o → listed.getD i true = true → ∀ e ∈ o.after, Region.binds .any e = true → listed.getD e.on false = true) → listed.toList.count false ≤ fuel → wpAny P .any ops.toArray Q fuel listed ⟨(fill (ops.filterMap (·.dst)) us 0 xs).toArray, df⟩ w := by
    -- where nothing may come up all has come up
    have done : ∀ (listed : Array Bool), listed.size = ops.length → Region.ready .any ops.toArray listed = [] → ∀ i, i < ops.length → listed.getD i true = true := by
      intro listed hsz hr i
      induction i using Nat.strongRecOn with
      | _ i ih =>
        intro hi
        cases hl : listed.getD i true with
        | true => rfl
        | false =>
          exfalso
          have : i ∈ Region.ready .any ops.toArray listed := by
            rw [mem_ready]
            refine ⟨hl, ops[i], by simp [hi], fun e he hb => ?_⟩
            have h1 := hg i ops[i] (by simp [hi]) e he hb
            have h2 := ih e.on h1 (by omega)
            have h3 : e.on < listed.size := by omega
            simp only [Array.getD_eq_getD_getElem?, Array.getElem?_eq_getElem h3, Option.getD_some] at h2 ⊢
            exact h2
          rw [hr] at this
          cases this
    intro fuel
    induction fuel with
    | zero =>
      intro listed us w hsz hw hS hD hc
      have hl : ∀ i, i < ops.length → listed.getD i true = true := by
        intro i hi
        have h3 : i < listed.size := by omega
        have : listed.toList.count false = 0 := by omega
        rw [List.count_eq_zero] at this
        simp only [Array.getD_eq_getD_getElem?, Array.getElem?_eq_getElem h3, Option.getD_some]
        cases hb : listed[i] with
        | true => rfl
        | false => exact absurd (by rw [← hb]; simp) this
      have hr : Region.ready .any ops.toArray listed = [] := by
        rw [List.eq_nil_iff_forall_not_mem]
        intro j hj
        rw [mem_ready] at hj
        obtain ⟨h1, o, ho, _⟩ := hj
        have : j < ops.length := by
          have := (Array.getElem?_eq_some_iff.1 ho).1
          simpa using this
        rw [hl j this] at h1
        cases h1
      exact ⟨hr, hfin us w hw (allOf_mk _ _ fun i o ho => by rw [Nat.zero_add]; exact hS i o ho (hl i (List.getElem?_eq_some_iff.1 ho).1))⟩
    | succ fuel ih =>
      intro listed us w hsz hw hS hD hc
      refine ⟨fun hr => hfin us w hw (allOf_mk _ _ fun i o ho => by rw [Nat.zero_add]; exact hS i o ho (done listed hsz hr i (List.getElem?_eq_some_iff.1 ho).1)), fun i hi => ?_⟩
      rw [mem_ready] at hi
      obtain ⟨hlu, o, ho, hdep⟩ := hi
      have ho' : ops[i]? = some o := by simpa using ho
      have hil : i < ops.length := (List.getElem?_eq_some_iff.1 ho').1
      have hd : depsOf ops S us w o.after.toList := depsOf_mk _ fun e he hb oj hoj => by
        refine hS e.on oj hoj ?_
        have h1 := hdep e (by simpa using he) hb
        have h2 : e.on < listed.size := by rw [hsz]; exact (List.getElem?_eq_some_iff.1 hoj).1
        simp only [Array.getD_eq_getD_getElem?, Array.getElem?_eq_getElem h2, Option.getD_some] at h1 ⊢
        exact h1
      have hst := stepsOf_at ops 0 i o hstep ho' us w hw hd
      rw [Nat.zero_add] at hst
      unfold wpOp
      rw [ho]
      have fin : ∀ a' w', Left C S Ev i (depVals ops us o.after.toList) ⟨(fill (ops.filterMap (·.dst)) us 0 xs).toArray, df⟩ o.dst w a' w' → wpAny P .any ops.toArray Q fuel (listed.setIfInBounds i true) a' w' := ?fin
      · unfold stepOf at hst
        simp only
        split
        · rename_i hwt
          rw [if_pos hwt] at hst
          exact Or.inl (Oper.wp_mono fin hst)
        · rename_i hwt
          rw [if_neg hwt] at hst
          exact fin _ _ hst
      rintro a' w' ⟨v, rfl, hw', hSi, hE⟩
      have hD' : ∀ (k : Nat) (o : Oper), ops[k]? = some o → (listed.setIfInBounds i true).getD k true = true → ∀ e ∈ o.after, Region.binds .any e = true → (listed.setIfInBounds i true).getD e.on false = true := by
        intro k ok hok hk e he hb
        have h1 : listed.getD e.on false = true := by
          by_cases ek : k = i
          · subst ek
            rw [ho'] at hok
            cases hok
            exact hdep e he hb
          · refine hD k ok hok ?_ e he hb
            have : (listed.setIfInBounds i true).getD k true = listed.getD k true := by
              simp [Array.getD_eq_getD_getElem?, Ne.symm ek]
            rwa [this] at hk
        have h2 : e.on < listed.size := by
          rcases Nat.lt_or_ge e.on listed.size with h | h
          · exact h
          · simp [Array.getD_eq_getD_getElem?, Array.getElem?_eq_none h] at h1
        by_cases ee : i = e.on
        · subst ee; simp [Array.getD_eq_getD_getElem?, h2]
        · have : (listed.setIfInBounds i true).getD e.on false = listed.getD e.on false := by
            simp [Array.getD_eq_getD_getElem?, ee]
          rw [this]; exact h1
      have hcount : (listed.setIfInBounds i true).toList.count false ≤ fuel := by
        have h2 : i < listed.size := by omega
        have h3 : listed[i] = false := by simpa [Array.getD_eq_getD_getElem?, h2] using hlu
        have h4 : listed.toList.count false = (listed.setIfInBounds i true).toList.count false + 1 := by
          rw [Array.toList_setIfInBounds]
          have h5 : i < listed.toList.length := by simpa using h2
          have h6 := List.count_set (l := listed.toList) (i := i) (a := true) (b := false) h5
          have h7 : listed.toList[i] = false := by simpa using h3
          have h8 : 0 < listed.toList.count false := List.count_pos_iff.2 (by rw [← h7]; simp)
          rw [h7, show (false == false) = true from rfl, show (true == false) = false from rfl, if_pos rfl, if_neg (by decide)] at h6
          omega
        omega
      cases hdst : o.dst with
      | none =>
        show wpAny _ _ _ _ _ _ _ _
        refine ih _ us w' (by simpa using hsz) hw' (fun j oj hoj hlj => ?_) hD' hcount
        by_cases e : j = i
        · subst e
          rw [ho'] at hoj
          cases hoj
          rw [hdst]
          simpa [hdst, valU] using hSi
        · refine hmono _ _ _ _ _ (hS j oj hoj ?_) hE
          have : (listed.setIfInBounds i true).getD j true = listed.getD j true := by
            simp [Array.getD_eq_getD_getElem?, Ne.symm e]
          rwa [this] at hlj
      | some d =>
        have hmem : (ops.filterMap (·.dst)).contains d = true := by
          rw [List.contains_iff_mem]
          exact List.mem_filterMap.2 ⟨o, List.mem_of_getElem? ho', hdst⟩
        -- what an operation waited for does not turn
        have hdv : ∀ (ok : Oper) (k : Nat), ops[k]? = some ok → (∀ e ∈ ok.after, Region.binds .any e = true → listed.getD e.on false = true) → depVals ops (updU us d v) ok.after.toList = depVals ops us ok.after.toList := by
          intro ok k hok hl
          have : ∀ (es : List Edge), (∀ e ∈ es, Region.binds .any e = true → listed.getD e.on false = true) → depVals ops (updU us d v) es = depVals ops us es := by
            intro es
            induction es with
            | nil => intro _; rfl
            | cons e es ihe =>
              intro h
              have h2 := ihe (fun e' he' => h e' (by simp [he']))
              unfold depVals
              split
              · rename_i hb
                have hl1 := h e (by simp) hb
                rw [h2]
                congr 1
                cases hoe : ops[e.on]? with
                | none => rfl
                | some oj =>
                  simp only
                  cases hod : oj.dst with
                  | none => rfl
                  | some d' =>
                    have hne : d' ≠ d := by
                      intro e'
                      have := nodup_filterMap _ ops hnd e.on i oj o d hoe ho' (by rw [hod, e']) hdst
                      rw [this] at hl1
                      have h2 : i < listed.size := by omega
                      simp only [Array.getD_eq_getD_getElem?, Array.getElem?_eq_getElem h2, Option.getD_some] at hl1 hlu
                      rw [hl1] at hlu
                      cases hlu
                    simp [valU, updU, hne]
              · exact h2
          exact this _ (fun e he => hl e (by simpa using he))
        show wpAny _ _ _ _ _ _ (⟨(fill (ops.filterMap (·.dst)) us 0 xs).toArray.setIfInBounds d v, df⟩ : Act) _
        rw [fill_set _ _ _ _ hmem]
        refine ih _ (updU us d v) w' (by simpa using hsz) hw' (fun j oj hoj hlj => ?_) hD' hcount
        by_cases e : j = i
        · subst e
          rw [ho'] at hoj
          cases hoj
          rw [hdst]
          rw [hdv o j ho' (fun e he hb => hdep e he hb)]
          simpa [hdst, valU, updU] using hSi
        · have hlj' : listed.getD j true = true := by
            have : (listed.setIfInBounds i true).getD j true = listed.getD j true := by
              simp [Array.getD_eq_getD_getElem?, Ne.symm e]
            rwa [this] at hlj
          have hv : valU (updU us d v) oj.dst = valU us oj.dst := by
            cases hoj2 : oj.dst with
            | none => rfl
            | some d' =>
              have : d' ≠ d := fun e' => e (nodup_filterMap _ ops hnd j i oj o d hoj ho' (by rw [hoj2, e']) hdst)
              simp [valU, updU, this]
          rw [hv, hdv oj j hoj (fun e he hb => hD j oj hoj hlj' e he hb)]
          exact hmono _ _ _ _ _ (hS j oj hoj hlj') hE
  have := key ops.toArray.size (Array.replicate ops.toArray.size false) (fun k => xs.getD k undef) w0.drew (by simp) hC (fun i o ho hl => by
    have : i < ops.length := (List.getElem?_eq_some_iff.1 ho).1
    simp [Array.getD_eq_getD_getElem?, this] at hl) (fun i o ho hl => by
    have : i < ops.length := (List.getElem?_eq_some_iff.1 ho).1
    simp [Array.getD_eq_getD_getElem?, this] at hl) (by simp)
  rw [fill_self] at this
  exact this
end
end Go.Proofs.Ytkeikkkcmackeaa
