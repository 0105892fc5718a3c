/- The range over a clock's order. -/
import Derived.Test.YtfigepnpegnhkaaClkJ
namespace Go.Proofs.Ytfigepnpegnhkaa
open Go Go.RowKit Go.Shelf
attribute [local go_sem] Oper.semAt_some
set_option linter.unusedVariables false
set_option linter.unusedSimpArgs false
set_option maxRecDepth 100000
theorem Row.onto {n : Nat} : ∀ {d : Nat → Nat}, Row n d → ∀ k, k < n → ∃ j, j < n ∧ d j = k := by
  induction n with
  | zero => intro d _ k hk; omega
  | succ n ih =>
    intro d h k hk
    have hv := h.lt n (by omega)
    obtain ⟨d', hd'⟩ : ∃ d' : Nat → Nat, d' = fun j => if d j = n then d n else d j := ⟨_, rfl⟩
    have e : ∀ j, d' j = if d j = n then d n else d j := fun j => by rw [hd']
    have ne : ∀ j, j < n → d j ≠ d n := fun j hj e => by have := h.inj j n (by omega) (by omega) e; omega
    have R : Row n d' := by
      constructor
      · intro j hj
        have h1 := h.lt j (by omega)
        have h2 := ne j hj
        rw [e]
        split
        · omega
        · omega
      · intro i j hi hj e'
        have h1 := ne i hi
        have h2 := ne j hj
        rw [e, e] at e'
        refine h.inj i j (by omega) (by omega) ?_
        split at e' <;> split at e' <;> omega
    by_cases c1 : k = d n
    · exact ⟨n, by omega, c1.symm⟩
    · by_cases c2 : k = n
      · obtain ⟨j, hj, ej⟩ := ih R (d n) (by omega)
        refine ⟨j, by omega, ?_⟩
        have h1 := ne j hj
        rw [e] at ej
        split at ej <;> omega
      · obtain ⟨j, hj, ej⟩ := ih R k (by omega)
        refine ⟨j, by omega, ?_⟩
        rw [e] at ej
        split at ej <;> omega
/-- An order of all threads. -/
def IsOrd (n : Nat) (T : Nat → Int) (d : Nat → Nat) : Prop := Row n d ∧ Sd T 0 n d
def okO (n : Nat) (T : Nat → Int) (pre : List Nat) (x : Nat) : Prop := ∃ d, IsOrd n T d ∧ pre.length < n ∧ x = d pre.length ∧ pre = (List.range pre.length).map d
def allO (n : Nat) (T : Nat → Int) (xs : List Nat) : Prop := ∃ d, IsOrd n T d ∧ xs = (List.range n).map d
theorem range_snoc (d : Nat → Nat) {pre : List Nat} (h : pre = (List.range pre.length).map d) : pre ++ [d pre.length] = (List.range (pre ++ [d pre.length]).length).map d := by
  rw [List.length_append, List.length_singleton, List.range_succ, List.map_append, ← h]; rfl
set_option maxHeartbeats 4000000 in
theorem order_in (w0 : World) (Bx : Nat) {g b cap n : Nat} {S T : Nat → Int} (hx : w0.cell? ⟨Bx, 0, none⟩ = some (.pointer (some ⟨g, 0, none⟩))) (C : Ck w0 g b cap n S T) (h1 : 1 ≤ n) (hn : n ≤ 16) (n0 B : Nat) :
    SeqB Try.prog 33 #[.pointer (some ⟨Bx, 0, none⟩)] (fun i : Nat => #[.int .i64 i]) n0 B (okO n T) (allO n T) (fun _ => True) w0 := by
  intro lp J Jx W hW hn0 hB0 hJ hJx hY h0
  have x0 := keepC hW hx
  have OR := Lib.hid (order_any (C.kept hW) h1 hn)
  have HJ := Lib.hid hJ
  have HY := Lib.hid hY
  have H0 := Lib.hid h0
  have HB0 := Lib.hid hB0
  clear hx hY hJ hJx h0 hW C hB0
  refine callsIn_of_wp Try.func33 rfl trivial ?_ rfl
  simp only [Try.ntmps33, List.size_toArray, List.length_cons, List.length_nil, Nat.reduceAdd, Nat.reduceSub, Array.replicate_succ, Array.replicate_zero, List.push_toArray, List.append_toArray, List.nil_append, List.cons_append]
  gi_wp2
  refine ⟨trivial, rfl, ?_⟩
  refine (callsIn_wide.2 OR.out).mono ?_
  rintro e w2 ⟨bl, c, d, rfl, hbl, ln, row, sd, b2⟩
  have J2 := Lib.hid (HJ.out _ _ _ H0.out b2)
  have LN := Lib.hid ln
  have IsO : Hid (IsOrd n T d) := Lib.hid ⟨row, sd⟩
  have HBL := Lib.hid hbl
  have HS := Lib.hid b2.size
  clear b2 ln row sd hbl OR
  gi_wp2
  gi_loopw [8] (fun i wr => ∃ pre : List Nat, pre.length ≤ n ∧ i = .int .i64 (pre.length : Nat) ∧ pre = (List.range pre.length).map d ∧ J pre wr ∧ Ln wr bl n d ∧ W.heap.size ≤ wr.heap.size) (fun i _ => n - (intOf i).toNat)
  case atStart => exact ⟨[], by simp, rfl, rfl, J2.out, LN.out, HS.out⟩
  case round =>
    obtain ⟨pre, hp, rfl, he, hj, ln, hsz⟩ := hrel
    have J1 := Lib.hid hj
    have L1 := Lib.hid ln
    have HE := Lib.hid he
    have x1 : pre.length < n → wr.cell? ⟨bl, pre.length, none⟩ = some (.int .i64 (d pre.length)) := fun h => ln.cell h
    have X1 := Lib.hid x1
    have OKK : Hid (pre.length < n → okO n T pre (d pre.length)) := Lib.hid (fun h => ⟨d, IsO.out, h, rfl, he⟩)
    have SN := Lib.hid (range_snoc d he)
    obtain ⟨k, hk⟩ : ∃ k, pre.length = k := ⟨_, rfl⟩
    have HK := Lib.hid hk
    rw [hk] at hp X1 OKK SN ⊢
    clear hj ln he x1 hk J2 LN
    by_cases hlt : k < n
    · have x1 := X1.out hlt
      obtain ⟨fn, tmps, assign, body, hy, hR⟩ := HY.out pre (d k) wr J1.out (OKK.out hlt) hsz
      obtain ⟨v, hv⟩ : ∃ v, d k = v := ⟨_, rfl⟩
      rw [hv] at x1 hy hR SN
      have hz : (k : Int) < n := by omega
      have HSZ := Lib.hid hsz
      clear X1 OKK hv
      gi_wp2
      refine ⟨rfl, ?_⟩
      refine hR.mono ?_
      rintro e w4 (⟨rfl, hj4, hk4⟩ | ⟨rfl, hj4, hk4⟩)
      · have J4 := Lib.hid hj4
        have L4 : Hid (Ln w4 bl n d) := Lib.hid (by
          obtain ⟨cs, hb, r⟩ := L1.out
          exact ⟨cs, (hk4.from_ bl (by have := HB0.out; have := HBL.out; omega) hb.lt).trans hb, r⟩)
        have sz4 := Nat.le_trans hsz hk4.size
        clear hj4 hk4 hR
        gi_wp2
        go_roundw
        case rel => exact ⟨pre ++ [v], by rw [List.length_append, HK.out]; simp <;> omega, by rw [List.length_append, HK.out]; first | rfl | (simp; done) | go_num, SN.out, J4.out, L4.out, sz4⟩
        case measure => simp [intOf] <;> omega
      · have J4 := Lib.hid hj4
        clear hj4 hk4 hR
        gi_wp2
        refine bodyPost_ret (results_none rfl _ _ _) rfl ?_
        exact ⟨⟨_, rfl⟩, .inr ⟨pre ++ [v], trivial, J4.out⟩⟩
    · have hke : k = n := by omega
      subst hke
      have zd : decide ((k : Int) < k) = false := decide_eq_false (by omega)
      gi_wp2
      go_end0
      exact ⟨⟨_, rfl⟩, .inl ⟨pre, ⟨d, IsO.out, by rw [HE.out, HK.out]⟩, J1.out⟩⟩
theorem order_fn (w : World) (p : Option Addr) : Calls Try.prog 18 #[.pointer p] w fun e w' => e = .returned (.func (.func 33) #[] #[.pointer (some ⟨w.heap.size, 0, none⟩)]) ∧ w' = w.alloc (.cells #[.pointer p] 24) := by
  go_enter Try.func18, Try.ntmps18
  go_wp2_with fail
  go_ret
  exact ⟨rfl, rfl⟩
end Go.Proofs.Ytfigepnpegnhkaa
