/- A region that draws its order and ends in an operation that waits, directly or not, for all others: they are looked at once each (XRel), the last one behind them all: it may do whatever it does. Of whatever program. -/
import Derived.Test.YtkeikkkcmackeaaRel
namespace Go.Proofs.Ytkeikkkcmackeaa
open Go.RowKit
section
variable {P : Program}
/-- The last operation waits for all others. -/
def tailB (ops : List Oper) : Bool :=
  (List.range (ops.length - 1)).all fun i => (List.range ops.length).any fun j => decide (i < j) && (match ops[j]? with | none => false | some o => o.after.any fun e => Region.binds .any e && decide (e.on = i))
variable {ops : List Oper} {C : World → Prop} {S : Nat → Value → List Value → World → Prop} {Ev : World → World → Prop} {xs : List Value} {df : List Deferred} {Q : Exit → Act → World → Prop}
/-- The law. -/
theorem wp_region_tail {id : Nat} {w0 : World} (n : Nat) (ol : Oper) (hlen : ops.length = n + 1) (hol : ops[n]? = some ol) (hgl : ol.guard = none) (hm : P.follows .mixedOrders = true) (hf : fitsB ops = true) (ht : tailB ops = true)
    (hmono : ∀ i v vs w w', S i v vs w → Ev w w' → S i v vs w') (hC : C w0.drew)
    (hstep : stepsOf P ops C S Ev xs df Q 0 (ops.take n))
    (hlast : ∀ us w, C w → allOf ops S us w 0 (ops.take n) → ol.wp P ⟨(fill (ops.filterMap (·.dst)) us 0 xs).toArray, df⟩ w (fun a' w' => Q .normal a' w') Q) :
    (Code.region id ops.toArray true).wp P Q ⟨xs.toArray, df⟩ w0 := by
  refine wp_region_any hm ?_
  simp only [fitsB, Bool.and_eq_true, decide_eq_true_eq, List.all_eq_true, List.mem_range] at hf
  obtain ⟨hnd, hall⟩ := hf
  have hg : ∀ (i : Nat) (o : Oper), ops[i]? = some o → ∀ e ∈ o.after, Region.binds .any e = true → e.on < i := by
    intro i o ho e he hbe
    have hi : i < ops.length := (List.getElem?_eq_some_iff.1 ho).1
    have := hall i hi
    rw [ho] at this
    simp only [Array.all_eq_true_iff_forall_mem] at this
    have h := this e he
    rw [hbe] at h
    simpa using h
  -- each one but the last is waited for by a later one
  have hwait : ∀ i, i < n → ∃ j o e, i < j ∧ ops[j]? = some o ∧ e ∈ o.after ∧ Region.binds .any e = true ∧ e.on = i := by
    intro i hi
    simp only [tailB, List.all_eq_true, List.mem_range, List.any_eq_true, Bool.and_eq_true, decide_eq_true_eq] at ht
    obtain ⟨j, _, hij, hm⟩ := ht i (by omega)
    cases ho : ops[j]? with
    | none => rw [ho] at hm; cases hm
    | some o =>
      rw [ho] at hm
      simp only [← Array.any_toList, List.any_eq_true] at hm
      obtain ⟨e, he, hb⟩ := hm
      have he : e ∈ o.after := by simpa using he
      simp only [Bool.and_eq_true, decide_eq_true_eq] at hb
      exact ⟨j, o, e, hij, ho, he, hb.1, hb.2⟩
  -- where all has come up nothing is left
  have nothing : ∀ (listed : Array Bool), listed.size = ops.length → (∀ i, i < ops.length → listed.getD i true = true) → Region.ready .any ops.toArray listed = [] := by
    intro listed hsz hl
    rw [List.eq_nil_iff_forall_not_mem]
    intro j hj
    rw [mem_ready] at hj
    obtain ⟨h1, o, ho, _⟩ := hj
    have : j < ops.length := by
      have := (Array.getElem?_eq_some_iff.1 ho).1
      simpa using this
    rw [hl j this] at h1
    cases h1
  have key : ∀ (fuel : Nat) (listed : Array Bool) (us : Nat → Value) (w : World), listed.size = ops.length → C w → listed.getD n true = false → (∀ (i : Nat) (o : Oper), ops[i]? = some o → listed.getD i true = true → S i (valU us o.dst) (depVals ops us o.after.toList) w) →
      (∀ (i : Nat) (o : Oper), ops[i]? = some o → listed.getD i true = true → ∀ e ∈ o.after, Region.binds .any e = true → listed.getD e.on false = true) → listed.toList.count false ≤ fuel → wpAny P .any ops.toArray Q fuel listed ⟨(fill (ops.filterMap (·.dst)) us 0 xs).toArray, df⟩ w := by
    -- where nothing may come up all has come up
    have done : ∀ (listed : Array Bool), listed.size = ops.length → Region.ready .any ops.toArray listed = [] → ∀ i, i < ops.length → listed.getD i true = true := by
      intro listed hsz hr i
      induction i using Nat.strongRecOn with
      | _ i ih =>
        intro hi
        cases hl : listed.getD i true with
        | true => rfl
        | false =>
          exfalso
          have : i ∈ Region.ready .any ops.toArray listed := by
            rw [mem_ready]
            refine ⟨hl, ops[i], by simp [hi], fun e he hb => ?_⟩
            have h1 := hg i ops[i] (by simp [hi]) e he hb
            have h2 := ih e.on h1 (by omega)
            have h3 : e.on < listed.size := by omega
            simp only [Array.getD_eq_getD_getElem?, Array.getElem?_eq_getElem h3, Option.getD_some] at h2 ⊢
            exact h2
          rw [hr] at this
          cases this
    intro fuel
    induction fuel with
    | zero =>
      intro listed us w hsz hw hn hS hD hc
      exfalso
      have h3 : n < listed.size := by omega
      have : listed.toList.count false = 0 := by omega
      rw [List.count_eq_zero] at this
      simp only [Array.getD_eq_getD_getElem?, Array.getElem?_eq_getElem h3, Option.getD_some] at hn
      exact absurd (by rw [← hn]; simp) this
    | succ fuel ih =>
      intro listed us w hsz hw hn hS hD hc
      refine ⟨fun hr => absurd (done listed hsz hr n (by omega)) (by rw [hn]; decide), fun i hi => ?_⟩
      rw [mem_ready] at hi
      obtain ⟨hlu, o, ho, hdep⟩ := hi
      have ho' : ops[i]? = some o := by simpa using ho
      have hil : i < ops.length := (List.getElem?_eq_some_iff.1 ho').1
      have up : ∀ k, listed.getD k false = true → listed.getD k true = true := by
        intro k hk
        rcases Nat.lt_or_ge k listed.size with h | h
        · simp only [Array.getD_eq_getD_getElem?, Array.getElem?_eq_getElem h, Option.getD_some] at hk ⊢
          exact hk
        · simp [Array.getD_eq_getD_getElem?, Array.getElem?_eq_none h]
      by_cases hin : i = n
      · subst hin
        rw [hol] at ho'
        cases ho'
        have hl : ∀ m k, k + m = i → m ≠ 0 → listed.getD k true = true := by
          intro m
          induction m using Nat.strongRecOn with
          | _ m ihm =>
            intro k hk hm0
            obtain ⟨j, oj, e, hij, hoj, he, hb, heo⟩ := hwait k (by omega)
            have hjl : j < ops.length := (List.getElem?_eq_some_iff.1 hoj).1
            by_cases hji : j = i
            · subst hji
              rw [hol] at hoj
              cases hoj
              rw [← heo]
              exact up _ (hdep e he hb)
            · have := ihm (i - j) (by omega) j (by omega) (by omega)
              rw [← heo]
              exact up _ (hD j oj hoj this e he hb)
        have hl' : ∀ k, k < i → listed.getD k true = true := fun k hk => hl (i - k) k (by omega) (by omega)
        have hA : allOf ops S us w 0 (ops.take i) := allOf_mk _ _ fun k ok hok => by
          rw [Nat.zero_add]
          have hki : k < i := by
            have := (List.getElem?_eq_some_iff.1 hok).1
            rw [List.length_take] at this
            omega
          rw [List.getElem?_take, if_pos hki] at hok
          exact hS k ok hok (hl' k hki)
        have hL := hlast us w hw hA
        unfold wpOp
        rw [ho]
        have fin : ∀ a' w', Q .normal a' w' → wpAny P .any ops.toArray Q fuel (listed.setIfInBounds i true) a' w' := by
          intro a' w' hq
          have hr : Region.ready .any ops.toArray (listed.setIfInBounds i true) = [] := nothing _ (by simpa using hsz) fun k hk => by
            by_cases e : i = k
            · subst e
              have h2 : i < listed.size := by omega
              simp [Array.getD_eq_getD_getElem?, h2]
            · have : (listed.setIfInBounds i true).getD k true = listed.getD k true := by
                simp [Array.getD_eq_getD_getElem?, e]
              rw [this]
              exact hl' k (by omega)
          cases fuel with
          | zero => exact ⟨hr, hq⟩
          | succ fuel => exact ⟨fun _ => hq, fun k hk => by rw [hr] at hk; cases hk⟩
        simp only
        rw [if_pos (by simp [Region.wanted, hgl])]
        exact Or.inl (Oper.wp_mono fin hL)
      have hd : depsOf ops S us w o.after.toList := depsOf_mk _ fun e he hb oj hoj => hS e.on oj hoj (up _ (hdep e (by simpa using he) hb))
      have hst := stepsOf_at (ops.take n) 0 i o hstep (by rw [List.getElem?_take, if_pos (by omega)]; exact ho') us w hw hd
      rw [Nat.zero_add] at hst
      unfold wpOp
      rw [ho]
      have hn' : (listed.setIfInBounds i true).getD n true = false := by
        have : (listed.setIfInBounds i true).getD n true = listed.getD n true := by
          simp [Array.getD_eq_getD_getElem?, hin]
        rw [this]; exact hn
      have fin : ∀ a' w', Left C S Ev i (depVals ops us o.after.toList) ⟨(fill (ops.filterMap (·.dst)) us 0 xs).toArray, df⟩ o.dst w a' w' → wpAny P .any ops.toArray Q fuel (listed.setIfInBounds i true) a' w' := ?fin
      · unfold stepOf at hst
        simp only
        split
        · rename_i hwt
          rw [if_pos hwt] at hst
          exact Or.inl (Oper.wp_mono fin hst)
        · rename_i hwt
          rw [if_neg hwt] at hst
          exact fin _ _ hst
      rintro a' w' ⟨v, rfl, hw', hSi, hE⟩
      have hD' : ∀ (k : Nat) (o : Oper), ops[k]? = some o → (listed.setIfInBounds i true).getD k true = true → ∀ e ∈ o.after, Region.binds .any e = true → (listed.setIfInBounds i true).getD e.on false = true := by
        intro k ok hok hk e he hb
        have h1 : listed.getD e.on false = true := by
          by_cases ek : k = i
          · subst ek
            rw [ho'] at hok
            cases hok
            exact hdep e he hb
          · refine hD k ok hok ?_ e he hb
            have : (listed.setIfInBounds i true).getD k true = listed.getD k true := by
              simp [Array.getD_eq_getD_getElem?, Ne.symm ek]
            rwa [this] at hk
        have h2 : e.on < listed.size := by
          rcases Nat.lt_or_ge e.on listed.size with h | h
          · exact h
          · simp [Array.getD_eq_getD_getElem?, Array.getElem?_eq_none h] at h1
        by_cases ee : i = e.on
        · subst ee; simp [Array.getD_eq_getD_getElem?, h2]
        · have : (listed.setIfInBounds i true).getD e.on false = listed.getD e.on false := by
            simp [Array.getD_eq_getD_getElem?, ee]
          rw [this]; exact h1
      have hcount : (listed.setIfInBounds i true).toList.count false ≤ fuel := by
        have h2 : i < listed.size := by omega
        have h3 : listed[i] = false := by simpa [Array.getD_eq_getD_getElem?, h2] using hlu
        have h4 : listed.toList.count false = (listed.setIfInBounds i true).toList.count false + 1 := by
          rw [Array.toList_setIfInBounds]
          have h5 : i < listed.toList.length := by simpa using h2
          have h6 := List.count_set (l := listed.toList) (i := i) (a := true) (b := false) h5
          have h7 : listed.toList[i] = false := by simpa using h3
          have h8 : 0 < listed.toList.count false := List.count_pos_iff.2 (by rw [← h7]; simp)
          rw [h7, show (false == false) = true from rfl, show (true == false) = false from rfl, if_pos rfl, if_neg (by decide)] at h6
          omega
        omega
      cases hdst : o.dst with
      | none =>
        show wpAny _ _ _ _ _ _ _ _
        refine ih _ us w' (by simpa using hsz) hw' hn' (fun j oj hoj hlj => ?_) hD' hcount
        by_cases e : j = i
        · subst e
          rw [ho'] at hoj
          cases hoj
          rw [hdst]
          simpa [hdst, valU] using hSi
        · refine hmono _ _ _ _ _ (hS j oj hoj ?_) hE
          have : (listed.setIfInBounds i true).getD j true = listed.getD j true := by
            simp [Array.getD_eq_getD_getElem?, Ne.symm e]
          rwa [this] at hlj
      | some d =>
        have hmem : (ops.filterMap (·.dst)).contains d = true := by
          rw [List.contains_iff_mem]
          exact List.mem_filterMap.2 ⟨o, List.mem_of_getElem? ho', hdst⟩
        -- what an operation waited for does not turn
        have hdv : ∀ (ok : Oper) (k : Nat), ops[k]? = some ok → (∀ e ∈ ok.after, Region.binds .any e = true → listed.getD e.on false = true) → depVals ops (updU us d v) ok.after.toList = depVals ops us ok.after.toList := by
          intro ok k hok hl
          have : ∀ (es : List Edge), (∀ e ∈ es, Region.binds .any e = true → listed.getD e.on false = true) → depVals ops (updU us d v) es = depVals ops us es := by
            intro es
            induction es with
            | nil => intro _; rfl
            | cons e es ihe =>
              intro h
              have h2 := ihe (fun e' he' => h e' (by simp [he']))
              unfold depVals
              split
              · rename_i hb
                have hl1 := h e (by simp) hb
                rw [h2]
                congr 1
                cases hoe : ops[e.on]? with
                | none => rfl
                | some oj =>
                  simp only
                  cases hod : oj.dst with
                  | none => rfl
                  | some d' =>
                    have hne : d' ≠ d := by
                      intro e'
                      have := nodup_filterMap _ ops hnd e.on i oj o d hoe ho' (by rw [hod, e']) hdst
                      rw [this] at hl1
                      have h2 : i < listed.size := by omega
                      simp only [Array.getD_eq_getD_getElem?, Array.getElem?_eq_getElem h2, Option.getD_some] at hl1 hlu
                      rw [hl1] at hlu
                      cases hlu
                    simp [valU, updU, hne]
              · exact h2
          exact this _ (fun e he => hl e (by simpa using he))
        show wpAny _ _ _ _ _ _ (⟨(fill (ops.filterMap (·.dst)) us 0 xs).toArray.setIfInBounds d v, df⟩ : Act) _
        rw [fill_set _ _ _ _ hmem]
        refine ih _ (updU us d v) w' (by simpa using hsz) hw' hn' (fun j oj hoj hlj => ?_) hD' hcount
        by_cases e : j = i
        · subst e
          rw [ho'] at hoj
          cases hoj
          rw [hdst]
          rw [hdv o j ho' (fun e he hb => hdep e he hb)]
          simpa [hdst, valU, updU] using hSi
        · have hlj' : listed.getD j true = true := by
            have : (listed.setIfInBounds i true).getD j true = listed.getD j true := by
              simp [Array.getD_eq_getD_getElem?, Ne.symm e]
            rwa [this] at hlj
          have hv : valU (updU us d v) oj.dst = valU us oj.dst := by
            cases hoj2 : oj.dst with
            | none => rfl
            | some d' =>
              have : d' ≠ d := fun e' => e (nodup_filterMap _ ops hnd j i oj o d hoj ho' (by rw [hoj2, e']) hdst)
              simp [valU, updU, this]
          rw [hv, hdv oj j hoj (fun e he hb => hD j oj hoj hlj' e he hb)]
          exact hmono _ _ _ _ _ (hS j oj hoj hlj') hE
  have := key ops.toArray.size (Array.replicate ops.toArray.size false) (fun k => xs.getD k undef) w0.drew (by simp) hC (by simp [Array.getD_eq_getD_getElem?, hlen]) (fun i o ho hl => by
    have : i < ops.length := (List.getElem?_eq_some_iff.1 ho).1
    simp [Array.getD_eq_getD_getElem?, this] at hl) (fun i o ho hl => by
    have : i < ops.length := (List.getElem?_eq_some_iff.1 ho).1
    simp [Array.getD_eq_getD_getElem?, this] at hl) (by simp)
  rw [fill_self] at this
  exact this
end
end Go.Proofs.Ytkeikkkcmackeaa
