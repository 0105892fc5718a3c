/- ReachGrows: the walk. -/
import Derived.Test.YtmejjejafimhfaaReachG
import Derived.Test.YtmejjejafimhfaaReachH
import Derived.Test.YtmejjejafimhfaaReachSettlesWalk
import Derived.WalkKit
import Derived.ProofKit
import Derived.OpenShut
import Derived.Lib.SmallJoins
import Derived.Deep.DeepCutAuto
import Derived.SizedLaws
namespace Go.Proofs.Ytmejjejafimhfaa.reachGrows
open Go.RowKit
set_option linter.unusedVariables false
set_option linter.unusedSimpArgs false
set_option maxRecDepth 100000

/-- How the region's blocks may go on: as they were, or the place is laid. -/
def plEv (ad : Int) (bk : Bool) (w w' : World) : Prop := ∀ g t cs, Blk w g t cs → Blk w' g t cs ∨ (t = 31 ∧ Blk w' g t #[.int .u32 ad, .bool bk])
theorem plEv_refl {ad : Int} {bk : Bool} (w : World) : plEv ad bk w w := fun _ _ _ h => Or.inl h
theorem plEv_below {ad : Int} {bk : Bool} {w w' : World} (h : Below w.heap.size w w') : plEv ad bk w w' := fun _ _ _ k => Or.inl (k.kept h)
theorem plEv_wk {ad : Int} {bk : Bool} {w w' : World} {g : Nat} {r : Rg} {sv : Value} {L : List Acc} {st : Bool} (k : plEv ad bk w w') (h : Wk w g r sv L st) : Wk w' g r sv L st := by
  obtain ⟨⟨cs, hb, q⟩, hl⟩ := h
  rcases k g _ cs hb with k | ⟨e, _⟩
  · exact ⟨⟨cs, k, q⟩, hl⟩
  · exact absurd e (by decide)
theorem plEv_arr {ad : Int} {bk : Bool} {w w' : World} {k : IntKind} {g n : Nat} {f : Nat → Int} (e : plEv ad bk w w') (h : Arr w k 5 g n f) : Arr w' k 5 g n f := by
  obtain ⟨cs, hb, q⟩ := h
  rcases e g _ cs hb with k | ⟨e, _⟩
  · exact ⟨cs, k, q⟩
  · exact absurd e (by decide)
/-- What each operation of the round's first region yields. -/
def plS (W : World) (cv rv vs : Value) (N n : Nat) (f : Nat → Int) (L : List Acc) (ad : Int) (bk : Bool) (pc : Int) (d : Bool) : Nat → Value → List Value → World → Prop
  | 0, v, _, _ => v = cv
  | 1, v, _, _ => v = rv
  | 2, v, _, _ => v = vs
  | 3, v, _, _ => v = .int .i64 n
  | 4, v, _, _ => Sees W .u8 v n f
  | 5, v, _, w => ∃ g, v = .slice (some ⟨g, 0, none⟩) n n ∧ W.heap.size ≤ g ∧ Arr w .u8 5 g n f
  | 6, v, _, w => ∃ g, v = .tuple #[listV g L, placeV ad bk, .int .u16 pc, .bool d] ∧ (∃ r sv st, Wk w g r sv L st) ∧ W.heap.size ≤ g
  | 7, v, _, w => ∃ g, v = .tuple #[listV g L, placeV ad bk, .int .u16 pc, .bool d] ∧ (∃ r sv st, Wk w g r sv L st) ∧ W.heap.size ≤ g
  | 8, v, _, w => ∃ g, v = listV g L ∧ (∃ r sv st, Wk w g r sv L st) ∧ W.heap.size ≤ g
  | 9, v, _, _ => v = placeV ad bk
  | 10, v, _, _ => v = .int .u16 pc
  | 11, v, _, _ => v = .bool d
  | 12, v, _, w => ∃ g cs, v = .pointer (some ⟨g, 0, none⟩) ∧ cs.size = 2 ∧ Blk w g 31 cs ∧ W.heap.size ≤ g
  | 13, v, _, w => ∃ g, v = listV g L ∧ (∃ r sv st, Wk w g r sv L st) ∧ W.heap.size ≤ g
  | 14, _, vs, w => ∃ g, vs.head? = some (.pointer (some ⟨g, 0, none⟩)) ∧ Blk w g 31 #[.int .u32 ad, .bool bk] ∧ W.heap.size ≤ g
  | 15, v, _, _ => v = .int .u16 pc
  | 16, v, _, _ => v = .bool d
  | _, _, _, _ => True
theorem plS_mono {W : World} {cv rv vs : Value} {N n : Nat} {f : Nat → Int} {L : List Acc} {ad : Int} {bk : Bool} {pc : Int} {d : Bool} (i : Nat) (v : Value) (q : List Value) (w w' : World) (h : plS W cv rv vs N n f L ad bk pc d i v q w) (k : plEv ad bk w w') : plS W cv rv vs N n f L ad bk pc d i v q w' := by
  match i, h with
  | 0, h => exact h
  | 1, h => exact h
  | 2, h => exact h
  | 3, h => exact h
  | 4, h => exact h
  | 5, ⟨g, a, b, c⟩ => exact ⟨g, a, b, plEv_arr k c⟩
  | 6, ⟨g, a, ⟨r, sv, st, h⟩, b⟩ => exact ⟨g, a, ⟨r, sv, st, plEv_wk k h⟩, b⟩
  | 7, ⟨g, a, ⟨r, sv, st, h⟩, b⟩ => exact ⟨g, a, ⟨r, sv, st, plEv_wk k h⟩, b⟩
  | 8, ⟨g, a, ⟨r, sv, st, h⟩, b⟩ => exact ⟨g, a, ⟨r, sv, st, plEv_wk k h⟩, b⟩
  | 9, h => exact h
  | 10, h => exact h
  | 11, h => exact h
  | 12, ⟨g, cs, a, b, h, l⟩ =>
    rcases k g _ cs h with k | ⟨_, k⟩
    · exact ⟨g, cs, a, b, k, l⟩
    · exact ⟨g, _, a, rfl, k, l⟩
  | 13, ⟨g, a, ⟨r, sv, st, h⟩, b⟩ => exact ⟨g, a, ⟨r, sv, st, plEv_wk k h⟩, b⟩
  | 14, ⟨g, a, h, l⟩ =>
    rcases k g _ _ h with k | ⟨_, k⟩
    · exact ⟨g, a, k, l⟩
    · exact ⟨g, a, k, l⟩
  | 15, h => exact h
  | 16, h => exact h
  | i + 17, _ => exact True.intro

theorem seen_take (f : Nat → Int) {n N : Nat} (h : n ≤ N) : ((List.range N).map f).take n = (List.range n).map f := by
  rw [← List.map_take, List.take_range, Nat.min_eq_left h]
theorem Sn.ofArr {w : World} {g n : Nat} {f : Nat → Int} (h : Arr w .u8 5 g n f) (hn : n ≤ 9223372036854775807) (hr : ∀ j, j < n → 0 ≤ f j ∧ f j ≤ 255) : Sn w w.heap.size (.slice (some ⟨g, 0, none⟩) n n) ((List.range n).map f) := by
  refine ⟨⟨some ⟨g, 0, none⟩, n, by simp, by simp, hn, Or.inr ⟨g, 0, rfl, h.lt, ?_⟩⟩, ?_⟩
  · intro j x hx
    obtain ⟨hj, e⟩ := List.getElem?_eq_some_iff.mp hx
    simp at hj e
    subst e
    rw [Nat.zero_add]
    exact h.cell hj
  · intro x hx
    simp at hx
    obtain ⟨j, hj, rfl⟩ := hx
    exact hr j hj
theorem Sees.sub {w : World} {k : IntKind} {ao : Option Addr} {N c : Nat} {f : Nat → Int} (h : Sees w k (.slice ao N c) N f) {n : Nat} (hn : n ≤ N) (c' : Nat) : Sees w k (.slice ao n c') n f := by
  obtain ⟨ao', c', e, h⟩ := h
  cases e
  refine ⟨_, _, rfl, ?_⟩
  rcases h with h | ⟨b, off, e, h⟩
  · exact Or.inl (by omega)
  · exact Or.inr ⟨b, off, e, fun j hj => h j (by omega)⟩

theorem slice_sub {P : Program} (w : World) (t : TypeId) (ao : Option Addr) (N c n z : Nat) (ht : P.underlying t = some (.slice (P.elem t))) (hz : (sizeOf (P.elem t)).run P w = .ok z w) (hn : n ≤ c) :
    (Instr.slice t (.slice ao N c) none (some (.int .i64 n)) none).run P w = .ok (.slice ao n c) w := by
  rw [run_slice_h w t ao N c ht .i64 n (by omega) (by omega), hz]
  simp only [Result.andThen, sliced, Int.toNat_natCast, Nat.zero_mul, Nat.sub_zero]
  congr 1
  split
  · rfl
  · cases ao with
    | none => rfl
    | some a => simp [Addr.add]
theorem slice_seen (ao : Option Addr) (N c n : Nat) (hn : n ≤ c) (w : World) : (Instr.slice 27 (.slice ao N c) none (some (.int .i64 n)) none).run Try.prog w = .ok (.slice ao n c) w :=
  slice_sub w _ ao N c n 1 (by kernel_rfl) (by kernel_rfl) hn
theorem slice_accs (ao : Option Addr) (N c n : Nat) (hn : n ≤ c) (w : World) : (Instr.slice 28 (.slice ao N c) none (some (.int .i64 n)) none).run Try.prog w = .ok (.slice ao n c) w :=
  slice_sub w _ ao N c n 3 (by kernel_rfl) (by kernel_rfl) hn
theorem Blk.uniq {w : World} {g : Nat} {t t' : TypeId} {cs cs' : Array Value} (h : Blk w g t cs) (k : Blk w g t' cs') : t = t' ∧ cs = cs' := by
  unfold Blk at h k
  rw [h] at k
  cases k
  exact ⟨rfl, rfl⟩
theorem place_put {w : World} {g : Nat} {cs : Array Value} (h : Blk w g 31 cs) (hs : cs.size = 2) (ad : Int) (bk : Bool) :
    Blk ((w.setCell ⟨g, 0, none⟩ (.int .u32 ad)).setCell ⟨g, 1, none⟩ (.bool bk)) g 31 #[.int .u32 ad, .bool bk] ∧ plEv ad bk w ((w.setCell ⟨g, 0, none⟩ (.int .u32 ad)).setCell ⟨g, 1, none⟩ (.bool bk)) := by
  obtain ⟨l⟩ := cs
  simp at hs
  match l, hs with
  | [a0, a1], _ =>
    have k : Blk ((w.setCell ⟨g, 0, none⟩ (.int .u32 ad)).setCell ⟨g, 1, none⟩ (.bool bk)) g 31 #[.int .u32 ad, .bool bk] := by
      have := (h.set_ 0 (.int .u32 ad)).set_ 1 (.bool bk)
      simpa using this
    refine ⟨k, ?_⟩
    intro g' t cs' hb
    by_cases e : g' = g
    · subst e
      obtain ⟨rfl, _⟩ := Blk.uniq hb h
      exact Or.inr ⟨rfl, k⟩
    · exact Or.inl ((hb.other (fun q => e q.symm) _).other (fun q => e q.symm) _)

set_option maxHeartbeats 8000000 in
theorem law (c m u wd : Int) (nm : ByteArray) (r : Rg) (ao : Option Addr) (N room : Nat) (f : Nat → Int) (w : World) (ok : r.ok) (u0 : 0 ≤ u) (hS : Sees w .u8 (.slice ao N room) N f) (hroom : N ≤ room) (hr2 : room ≤ 9223372036854775807) (hN : N ≤ 140737488355328) (hf : ∀ j, j < N → 0 ≤ f j ∧ f j ≤ 255) :
    Calls Try.prog 3 #[codeV c nm m u wd, rV r, .slice ao N room] w fun e w' => e = .returned (.bool true) ∧ Below w.heap.size w w' := by
  obtain ⟨t, ht8, ht⟩ := course_tree m u (setR r)
  obtain ⟨S, hSd⟩ : ∃ S : List Int, S = (List.range N).map f := ⟨_, rfl⟩
  have HC : Hid (∀ n : Nat, n ≤ N → ∃ ad bk pc, (dn t S n = false → ad = 0 ∧ bk = false ∧ pc = 0) ∧ ∀ (w : World) (g : Nat), Arr w .u8 5 g n f → Calls Try.prog 5 #[codeV c nm m u wd, rV r, .slice (some ⟨g, 0, none⟩) n n] w fun e w' => ∃ g, e = .returned (.tuple #[listV g (acc t S n), placeV ad bk, .int .u16 pc, .bool (dn t S n)]) ∧ (∃ r sv st, Wk w' g r sv (acc t S n) st) ∧ Below w.heap.size w w' ∧ w.heap.size ≤ g) := by
    intro n hn
    obtain ⟨h1, h2⟩ := ht (S.take n)
    have hl : (List.range n).map f = S.take n := by rw [hSd, seen_take f hn]
    have h3 : (mReach m u ⟨setR r, S.take n, [], false⟩).2.st = !dn t S n := by rw [h2]; unfold dn; cases (t.out (S.take n)).2 <;> rfl
    have h1' : (mReach m u ⟨setR r, S.take n, [], false⟩).2.L = acc t S n := h1
    refine ⟨(mEnd (mReach m u ⟨setR r, S.take n, [], false⟩)).1.1, (mEnd (mReach m u ⟨setR r, S.take n, [], false⟩)).1.2, (mEnd (mReach m u ⟨setR r, S.take n, [], false⟩)).2.1, ?_, ?_⟩
    · intro hd
      unfold mEnd
      rw [h3, hd]
      exact ⟨rfl, rfl, rfl⟩
    · intro w g ha
      refine (course_m c m u wd nm r _ _ w (Sn.ofArr ha (by omega) (fun j hj => hf j (by omega))) ok u0).mono ?_
      rintro e w' ⟨g', rfl, ⟨v, hw⟩, hb, hg⟩
      rw [hl] at hw ⊢
      rw [h1'] at hw ⊢
      refine ⟨g', ?_, ⟨_, _, _, hw⟩, hb, hg⟩
      have h4 : (mEnd (mReach m u ⟨setR r, S.take n, [], false⟩)).2.2 = dn t S n := by
        unfold mEnd
        rw [h3]
        cases dn t S n <;> rfl
      rw [h4]
  have HS := Lib.hid hS
  have HSL : Hid (S.length = N) := by rw [hSd]; simp [Hid]
  have HT := Lib.hid ht8
  clear hS hSd ht ht8 ok
  have hrv : ∃ rv, rv = rV r := ⟨_, rfl⟩
  obtain ⟨ra, rx, ry, rs, rd, rpc, rb, rk, rp, re⟩ := r
  go_enter Try.func3, Try.ntmps3
  try simp only [List.append_eq, List.cons_append, List.nil_append]
  go_wp2_with fail
  obtain ⟨W1, hW⟩ : ∃ W1, W1 = (w.alloc (.cells #[.int .u8 c, .string nm, .int .u8 m, .int .u8 u, .int .u8 wd] 23)).alloc (.cells #[.int .u16 ra, .int .u16 rx, .int .u16 ry, .int .u16 rs, .int .u16 rd, .int .u16 rpc, .int .u8 rb, .int .u8 rk, .int .u8 rp, .bool re] 26) := ⟨_, rfl⟩
  obtain ⟨B, hB⟩ : ∃ B, B = w.heap.size := ⟨_, rfl⟩
  have cb : Below w.heap.size w W1 := by rw [hW]; exact belowA (belowA (Below.refl _ _) _) _
  have BC : Hid (Blk W1 B 23 #[.int .u8 c, .string nm, .int .u8 m, .int .u8 u, .int .u8 wd]) := by rw [hW, hB]; exact (Blk.new _ _ _).alloc _
  have BR : Hid (Blk W1 (B + 1) 26 #[.int .u16 ra, .int .u16 rx, .int .u16 ry, .int .u16 rs, .int .u16 rd, .int .u16 rpc, .int .u8 rb, .int .u8 rk, .int .u8 rp, .bool re]) := by
    rw [hW, hB]
    have := Blk.new (w.alloc (.cells #[.int .u8 c, .string nm, .int .u8 m, .int .u8 u, .int .u8 wd] 23)) 26 #[.int .u16 ra, .int .u16 rx, .int .u16 ry, .int .u16 rs, .int .u16 rd, .int .u16 rpc, .int .u8 rb, .int .u8 rk, .int .u8 rp, .bool re]
    show Blk _ (w.heap.size + 1) _ _
    simpa using this
  rw [← hW, ← hB]
  have CB := Lib.hid cb
  have HS1 := Lib.hid (HS.out.kept cb)
  clear hW cb hB HS
  go_loopw [7, 8, 9] (fun l e i wr => ∃ n : Nat, n ≤ N + 1 ∧ n ≤ 13 ∧ i = .int .i64 n ∧ ∃ L b, AccS wr l L ∧ e = .bool b ∧ (n ≤ N → Pst t S n L b) ∧ Below W1.heap.size W1 wr) (fun _ _ i _ => 13 - (intOf i).toNat)
  case atStart => exact ⟨0, by omega, by omega, rfl, [], false, AccS.nil _, rfl, fun _ => ⟨rfl, rfl⟩, Below.refl _ _⟩
  case round =>
    obtain ⟨n, hn1, hn2, rfl, L, eb, hL, rfl, hP, hb⟩ := hrel
    have HL := Lib.hid hL
    have HP := Lib.hid hP
    have HB := Lib.hid hb
    clear hL hP hb
    have br := BR.out.kept HB.out
    have bc := BC.out.kept HB.out
    have hs := HS1.out.kept HB.out
    have HBR := Lib.hid br
    have HBC := Lib.hid bc
    have HSR := Lib.hid hs
    clear br bc hs
    by_cases hlt : n ≤ N ∧ n ≤ 12
    · obtain ⟨h1, h2⟩ := hlt
      go_upto_region 6 with (fail)
      obtain ⟨W2, hW2⟩ : ∃ W2, W2 = wr := ⟨_, rfl⟩
      rw [← hW2] at HL HB HBR HBC HSR ⊢
      clear hW2
      go_cut [10, 11, 12, 13] from 16 to 37 (fun s10 s11 s12 s13 wx => ∃ gP ad bk pc, AccS wx s10 (acc t S n) ∧ s11 = .pointer (some ⟨gP, 0, none⟩) ∧ s12 = .int .u16 pc ∧ s13 = .bool (dn t S n) ∧ (dn t S n = false → ad = 0 ∧ bk = false ∧ pc = 0) ∧ Blk wx gP 31 #[.int .u32 ad, .bool bk] ∧ Below W2.heap.size W2 wx)
      case first =>
        obtain ⟨ad, bk, pc, hz, hcn⟩ := HC.out n h1
        have HCn := Lib.hid hcn
        have HZ := Lib.hid hz
        clear hcn hz
        refine wp_region_rel (C := fun w' => Below W2.heap.size W2 w') (S := plS W2 (codeV c nm m u wd) (rV ⟨ra, rx, ry, rs, rd, rpc, rb, rk, rp, re⟩) (.slice ao N room) N n f (acc t S n) ad bk pc (dn t S n)) (Ev := plEv ad bk) (by kernel_rfl) (by kernel_rfl) plS_mono ?_ ?_ ?_
        · exact belowD (Below.refl _ _)
        · simp only [stepsOf]
          refine ⟨fun us w' hw hd => stepOf_plain rfl ?_, fun us w' hw hd => stepOf_plain rfl ?_, fun us w' hw hd => stepOf_plain rfl ?_, fun us w' hw hd => stepOf_plain rfl ?_, fun us w' hw hd => stepOf_plain rfl ?_, fun us w' hw hd => stepOf_plain rfl ?_, fun us w' hw hd => stepOf_plain rfl ?_, fun us w' hw hd => stepOf_plain rfl ?_, fun us w' hw hd => stepOf_plain rfl ?_, fun us w' hw hd => stepOf_plain rfl ?_, fun us w' hw hd => stepOf_plain rfl ?_, fun us w' hw hd => stepOf_plain rfl ?_, fun us w' hw hd => stepOf_plain rfl ?_, fun us w' hw hd => stepOf_plain rfl ?_, fun us w' hw hd => stepOf_plain rfl ?_, fun us w' hw hd => stepOf_plain rfl ?_, fun us w' hw hd => stepOf_plain rfl ?_, trivial⟩
          all_goals simp only [fill, List.filterMap_cons, List.filterMap_nil]
          · have c0 := keepC hw (HBC.out.cell 0)
            have c1 := keepC hw (HBC.out.cell 1)
            have c2 := keepC hw (HBC.out.cell 2)
            have c3 := keepC hw (HBC.out.cell 3)
            have c4 := keepC hw (HBC.out.cell 4)
            go_simp
            exact ⟨_, rfl, hw, rfl, plEv_refl _⟩
          · have c0 := keepC hw (HBR.out.cell 0)
            have c1 := keepC hw (HBR.out.cell 1)
            have c2 := keepC hw (HBR.out.cell 2)
            have c3 := keepC hw (HBR.out.cell 3)
            have c4 := keepC hw (HBR.out.cell 4)
            have c5 := keepC hw (HBR.out.cell 5)
            have c6 := keepC hw (HBR.out.cell 6)
            have c7 := keepC hw (HBR.out.cell 7)
            have c8 := keepC hw (HBR.out.cell 8)
            have c9 := keepC hw (HBR.out.cell 9)
            go_simp
            exact ⟨_, rfl, hw, rfl, plEv_refl _⟩
          · go_simp
            exact ⟨_, rfl, hw, rfl, plEv_refl _⟩
          · go_simp
            exact ⟨_, rfl, hw, rfl, plEv_refl _⟩
          · have h3 : us 29 = .slice ao N room := hd.1 rfl
            have h4 : us 30 = .int .i64 n := hd.2.1 rfl
            have hsl := slice_seen ao N room n (by omega) w'
            go_simp
            exact ⟨_, rfl, hw, Sees.sub HSR.out h1 room, plEv_refl _⟩
          · have h4 : Sees W2 .u8 (us 31) n f := hd.1 rfl
            have h5 := Lib.hid (copied_any _ n f _ (h4.kept hw) (by omega))
            clear h4
            go_simp
            refine h5.out.mono ?_
            rintro e w2 ⟨g1, rfl, hc1, hC, hbC⟩
            exact ⟨_, rfl, belowStep hw hbC, ⟨g1, rfl, Nat.le_trans hw.size hc1, hC⟩, plEv_below hbC⟩
          · have e1 : us 27 = codeV c nm m u wd := hd.1 rfl
            have e2 : us 28 = rV ⟨ra, rx, ry, rs, rd, rpc, rb, rk, rp, re⟩ := hd.2.1 rfl
            obtain ⟨g1, e3, h4, h5⟩ : ∃ g, us 32 = .slice (some ⟨g, 0, none⟩) n n ∧ W2.heap.size ≤ g ∧ Arr w' .u8 5 g n f := hd.2.2.1 rfl
            have h6 := Lib.hid (HCn.out w' g1 h5)
            clear h5
            go_simp
            refine h6.out.mono ?_
            rintro e w2 ⟨g2, rfl, hk, hbC, hg2⟩
            exact ⟨_, rfl, belowStep hw hbC, ⟨g2, rfl, hk, Nat.le_trans hw.size hg2⟩, plEv_below hbC⟩
          · obtain ⟨g, a, b, l⟩ := hd.1 rfl
            have a : us 33 = _ := a
            have b := Lib.hid b
            go_simp
            exact ⟨_, rfl, hw, ⟨g, by first | rfl | exact a, b.out, l⟩, plEv_refl _⟩
          · obtain ⟨g, a, b, l⟩ := hd.1 rfl
            have a : us 26 = _ := a
            have b := Lib.hid b
            go_simp
            exact ⟨_, rfl, hw, ⟨g, rfl, b.out, l⟩, plEv_refl _⟩
          · obtain ⟨g, a, b, l⟩ := hd.1 rfl
            have a : us 26 = _ := a
            have b := Lib.hid b
            go_simp
            exact ⟨_, rfl, hw, rfl, plEv_refl _⟩
          · obtain ⟨g, a, b, l⟩ := hd.1 rfl
            have a : us 26 = _ := a
            have b := Lib.hid b
            go_simp
            exact ⟨_, rfl, hw, rfl, plEv_refl _⟩
          · obtain ⟨g, a, b, l⟩ := hd.1 rfl
            have a : us 26 = _ := a
            have b := Lib.hid b
            go_simp
            exact ⟨_, rfl, hw, rfl, plEv_refl _⟩
          · go_simp
            exact ⟨_, rfl, belowA hw _, ⟨w'.heap.size, _, rfl, rfl, Blk.new _ _ _, hw.size⟩, plEv_below (belowA (Below.refl _ _) _)⟩
          · obtain ⟨g, a, b, l⟩ := hd.1 rfl
            have a : us 34 = _ := a
            have b := Lib.hid b
            go_simp
            exact ⟨_, rfl, hw, ⟨g, by first | rfl | exact a, b.out, l⟩, plEv_refl _⟩
          · obtain ⟨g, cs, e1, e2, e3, e4⟩ := hd.1 rfl
            have e1 : us 11 = .pointer (some ⟨g, 0, none⟩) := e1
            have e5 : us 35 = placeV ad bk := hd.2.1 rfl
            obtain ⟨k1, k2⟩ := place_put e3 e2 ad bk
            have c0 : ∃ v, w'.cell? ⟨g, 0, none⟩ = some v := ⟨_, (e3.cell 0).trans (Array.getElem?_eq_getElem (by omega))⟩
            have c1 : ∃ v, w'.cell? ⟨g, 1, none⟩ = some v := ⟨_, (e3.cell 1).trans (Array.getElem?_eq_getElem (by omega))⟩
            obtain ⟨v0, c0⟩ := c0
            obtain ⟨v1, c1⟩ := c1
            have f0 := e3.frozen 0
            have f1 := e3.frozen 1
            have K1 := Lib.hid k1
            have K2 := Lib.hid k2
            clear k1 k2 e3
            go_simp
            exact ⟨undef, rfl, belowS (belowS hw e4 _) e4 _, ⟨g, congrArg some e1, K1.out, e4⟩, K2.out⟩
          · have a : us 36 = _ := hd.1 rfl
            go_simp
            exact ⟨_, rfl, hw, by first | rfl | exact a, plEv_refl _⟩
          · have a : us 37 = _ := hd.1 rfl
            go_simp
            exact ⟨_, rfl, hw, by first | rfl | exact a, plEv_refl _⟩
        · intro us w' hw ha
          obtain ⟨_, _, _, _, _, _, _, _, _, _, _, _, ⟨gP, _, hp, _⟩, ⟨gL, hl, ⟨r', sv', st', hk⟩, _⟩, ⟨gP', hp', hbP, _⟩, hpc, hdn, _⟩ := ha
          have e10 : us 10 = listV gL (acc t S n) := hl
          have e12 : us 12 = .int .u16 pc := hpc
          have e13 : us 13 = .bool (dn t S n) := hdn
          have hp'' : some (us 11) = some (.pointer (some ⟨gP', 0, none⟩)) := hp'
          have e11 : us 11 = .pointer (some ⟨gP', 0, none⟩) := by injection hp''
          have REL : Hid (∃ gP ad bk pc, AccS w' (us 10) (acc t S n) ∧ us 11 = .pointer (some ⟨gP, 0, none⟩) ∧ us 12 = .int .u16 pc ∧ us 13 = .bool (dn t S n) ∧ (dn t S n = false → ad = 0 ∧ bk = false ∧ pc = 0) ∧ Blk w' gP 31 #[.int .u32 ad, .bool bk] ∧ Below W2.heap.size W2 w') := ⟨gP', ad, bk, pc, by rw [e10]; exact AccS.ofWk hk, e11, e12, e13, HZ.out, hbP, hw⟩
          clear hp hl hk hp' hbP hpc hdn e10 e11 e12 e13 hp'' hw
          simp only [fill, List.filterMap_cons, List.filterMap_nil, List.contains_cons, List.contains_nil, Nat.zero_add, Nat.reduceAdd, Nat.reduceBEq, Bool.or_false, Bool.or_true, Bool.false_or, Bool.true_or, Bool.or_self, Bool.false_eq_true, if_true, if_false]
          go_wp2_with fail
          go_meet
          exact REL.out
      case rest =>
        obtain ⟨gP, ad, bk, pc, hA, rfl, rfl, rfl, hz, hbP, hbw⟩ := hcut
        have HLx := Lib.hid (HL.out.kept hbw)
        have HBx := Lib.hid (HB.out.trans (hbw.mono HB.out.size))
        have HPx := Lib.hid hbP
        have HZ := Lib.hid hz
        have HAx := Lib.hid hA
        clear hbw hbP hz hA HL HB HBR HBC HSR
        have hpre := (HP.out h1).pre (by rw [HSL.out]; exact h1)
        have HPR := Lib.hid hpre
        clear hpre
        obtain ⟨ao1, c1, hv1, l1, l12, hx1⟩ := HAx.out
        obtain ⟨ao2, c2, hv2, l2, l22, hx2⟩ := HLx.out
        have HX1 := Lib.hid hx1
        have hle : L.length ≤ (acc t S n).length := HPR.out.1.length_le
        have hsub : AccS wc (.slice ao1 L.length c1) L := by
          refine ⟨_, _, rfl, by omega, l12, ?_⟩
          obtain ⟨⟨D, hD⟩, _⟩ := HPR.out
          rcases hx1 with ⟨h, rfl⟩ | ⟨b, off, rfl, h⟩
          · left
            refine ⟨?_, rfl⟩
            rw [h] at hD
            exact (List.append_eq_nil_iff.mp hD).1
          · right
            refine ⟨b, off, rfl, fun i x hi => h i x ?_⟩
            rw [← hD, List.getElem?_append_left (List.getElem?_eq_some_iff.mp hi).1]
            exact hi
        have SY := Lib.hid (same_yes _ _ L wc hsub HLx.out)
        have hsl := slice_accs ao1 (acc t S n).length c1 L.length (by omega) wc
        obtain ⟨nl, hnl⟩ : ∃ q, L.length = q := ⟨_, rfl⟩
        obtain ⟨na, hna⟩ : ∃ q, (acc t S n).length = q := ⟨_, rfl⟩
        have ha8 : na ≤ 8 := by rw [← hna]; exact acc_len HT.out S n
        subst hv1
        subst hv2
        rw [hnl] at hsl SY l2 hle ⊢
        rw [hna] at hsl l1 hle ⊢
        have q1 : (nl : Int) ≤ na := by omega
        have q2 : (nl : Int) ≤ c1 := by omega
        have q3 : (0 : Int) ≤ nl := by omega
        have q4 : decide (na < nl) = false := decide_eq_false (by omega)
        have HNA := Lib.hid hna
        have HNL := Lib.hid hnl
        clear hx1 hx2 hsub hna hnl
        go_upto_region 7 with (fail)
        go_cut [51] from 38 to 51 (fun s51 wx => s51 = .bool false ∧ Below wc.heap.size wc wx)
        case first =>
          go_wp2_with fail
          refine SY.out.mono ?_
          rintro e w3 ⟨rfl, hb3⟩
          go_wp2_with fail
          go_meet
          exact ⟨rfl, hb3⟩
        case rest =>
          obtain ⟨rfl, hcut⟩ := hcut
          have HX2 : Hid ((acc t S n = [] ∧ ao1 = none) ∨ ∃ b off, ao1 = some ⟨b, off, none⟩ ∧ ∀ i x, (acc t S n)[i]? = some x → wc.cell? ⟨b, off + i * 3, none⟩ = some (.int .u8 x.1) ∧ wc.cell? ⟨b, off + i * 3 + 1, none⟩ = some (.int .u32 x.2.1) ∧ wc.cell? ⟨b, off + i * 3 + 2, none⟩ = some (.int .u8 x.2.2)) := by
            rcases HX1.out with h | ⟨b, off, e, h⟩
            · exact Or.inl h
            · exact Or.inr ⟨b, off, e, fun i x hi => by obtain ⟨a, b, c⟩ := h i x hi; exact ⟨keepC hcut a, keepC hcut b, keepC hcut c⟩⟩
          have HA3 := Lib.hid (HAx.out.kept hcut)
          have HL3 := Lib.hid (HLx.out.kept hcut)
          have HP3 := Lib.hid (HPx.out.kept hcut)
          have HB3 := Lib.hid (HBx.out.trans (hcut.mono HBx.out.size))
          clear hcut HX1 HAx HLx HPx HBx SY hsl
          go_wp2_with fail
          go_loopw [14, 15] (fun rv i wr => ∃ k : Nat, k ≤ na ∧ i = .int .i64 k ∧ rv = .int .i64 (rdN ((acc t S n).take k)) ∧ Below wc.heap.size wc wr) (fun _ i _ => na - (intOf i).toNat)
          case atStart => exact ⟨0, by omega, rfl, rfl, Below.refl _ _⟩
          case round =>
            obtain ⟨k, hk, rfl, rfl, hb⟩ := hrel
            have HBi := Lib.hid hb
            clear hb
            by_cases hkn : k < na
            · have hne : ¬ (acc t S n = [] ∧ ao1 = none) := by rintro ⟨h, _⟩; have := HNA.out; rw [h] at this; simp at this; omega
              obtain ⟨b1, o1, rfl, hc1⟩ := HX2.out.resolve_left hne
              have hx : (acc t S n)[k]? = some ((acc t S n)[k]'(by rw [HNA.out]; exact hkn)) := by simp
              obtain ⟨p0, p1, p2⟩ := hc1 k _ hx
              have p0 := keepC HBi.out p0
              have p1 := keepC HBi.out p1
              obtain ⟨y1, y2, y3⟩ := acc_at t S n hx
              have ht := rdN_take _ k hx
              obtain ⟨x0, e0⟩ : ∃ x0, ((acc t S n)[k]'(by rw [HNA.out]; exact hkn)).1 = x0 := ⟨_, rfl⟩
              obtain ⟨x1, e1⟩ : ∃ x0, ((acc t S n)[k]'(by rw [HNA.out]; exact hkn)).2.1 = x0 := ⟨_, rfl⟩
              rw [e0] at p0 y1 ht
              rw [e1] at p1 y2 y3
              obtain ⟨rn, hrn⟩ : ∃ q, rdN ((acc t S n).take k) = q := ⟨_, rfl⟩
              have hrk : rn ≤ k := by
                rw [← hrn]
                unfold rdN
                exact Nat.le_trans (List.length_filter_le _ _) (by rw [List.length_take]; omega)
              rw [hrn] at ht ⊢
              clear hc1 hx e0 e1 hne p2 hrn
              rcases y1 with rfl | rfl
              · have HT2 := Lib.hid (show rdN ((acc t S n).take (k + 1)) = rn by simpa using ht)
                clear ht
                go_wp2_with fail
                go_roundw
                case rel => exact ⟨k + 1, by omega, by go_num, by rw [HT2.out], HBi.out⟩
                case measure => simp [intOf]; omega
              · have HT2 := Lib.hid (show rdN ((acc t S n).take (k + 1)) = rn + 1 by simpa using ht)
                clear ht
                go_wp2_with fail
                go_roundw
                case rel => exact ⟨k + 1, by omega, by go_num, by rw [HT2.out]; go_num, HBi.out⟩
                case measure => simp [intOf]; omega
            · have hkk : k = na := by omega
              subst hkk
              have htk : (acc t S n).take k = acc t S n := by rw [← HNA.out, List.take_length]
              rw [htk]
              have HA4 := Lib.hid (HA3.out.kept HBi.out)
              have HL4 := Lib.hid (HL3.out.kept HBi.out)
              have HP4 := Lib.hid (HP3.out.kept HBi.out)
              have HB4 := Lib.hid (HB3.out.trans (HBi.out.mono HB3.out.size))
              have pc0 := HP4.out.cell 0
              have pc1 := HP4.out.cell 1
              cases hd : dn t S n
              · obtain ⟨z1, x, z2, z3, z4⟩ := acc_stuck t S n (by rw [HSL.out]; exact h1) hd
                obtain ⟨rfl, rfl, rfl⟩ := HZ.out hd
                have heb : eb = false := by
                  cases eb
                  · rfl
                  · have := (HPR.out.2 rfl).2; rw [hd] at this; cases this
                subst heb
                rw [HNA.out] at z2 z4
                rw [z1]
                have hne : ¬ (acc t S n = [] ∧ ao1 = none) := by rintro ⟨h, _⟩; have := HNA.out; rw [h] at this; simp at this; omega
                obtain ⟨b1, o1, rfl, hc1⟩ := HX2.out.resolve_left hne
                obtain ⟨p0, _, _⟩ := hc1 (k - 1) x z2
                have p0 := keepC HBi.out p0
                rw [z3] at p0
                have zk : ((k - 1 : Nat) : Int) = (k : Int) - 1 := by omega
                have HD := Lib.hid hd
                clear hc1 hne z1 z2 z3 hd htk
                go_wp2_with fail
                exact ⟨⟨n + 1, by omega, by omega, by go_num, acc t S n, false, by have := HA4.out; rw [HNA.out] at this; exact this, rfl, fun _ => ⟨rfl, HD.out.symm⟩, HB4.out⟩, by simp [intOf]; omega⟩
              · have z1 := acc_done t S n (by rw [HSL.out]; exact h1) hd
                obtain ⟨rn, hrn⟩ : ∃ q, rdN (acc t S n) = q := ⟨_, rfl⟩
                rw [hrn] at z1 ⊢
                have HD := Lib.hid hd
                clear hd htk hrn
                cases eb
                · go_wp2_with fail
                  exact ⟨⟨n + 1, by omega, by omega, by go_num, acc t S n, true, by have := HA4.out; rw [HNA.out] at this; exact this, rfl, fun _ => ⟨rfl, HD.out.symm⟩, HB4.out⟩, by simp [intOf]; omega⟩
                · have hLa := (HPR.out.2 rfl).1
                  have SY2 := Lib.hid (same_yes (.slice ao1 k c1) (.slice ao2 nl c2) L wr (by have := HA4.out; rw [HNA.out, hLa] at this; exact this) (by have := HL4.out; rw [HNL.out] at this; exact this))
                  clear hLa
                  go_wp2_with fail
                  refine SY2.out.mono ?_
                  rintro e w5 ⟨rfl, hb5⟩
                  go_wp2_with fail
                  exact ⟨⟨n + 1, by omega, by omega, by go_num, acc t S n, true, by have := HA4.out.kept hb5; rw [HNA.out] at this; exact this, rfl, fun _ => ⟨rfl, HD.out.symm⟩, HB4.out.trans (hb5.mono HB4.out.size)⟩, by simp [intOf]; omega⟩
    · have AW := Lib.hid awakeR
      by_cases h1 : n ≤ N
      · have h2 : ¬ n ≤ 12 := fun h => hlt ⟨h1, h⟩
        clear hlt
        go_wp2_with fail
        refine (AW.out _).mono ?_
        rintro e w3 ⟨rfl, hb3⟩
        go_wp2_with fail
        go_ret
        exact ⟨rfl, (CB.out.trans (HB.out.mono CB.out.size)).trans (hb3.mono (Nat.le_trans CB.out.size HB.out.size))⟩
      · clear hlt
        go_wp2_with fail
        refine (AW.out _).mono ?_
        rintro e w3 ⟨rfl, hb3⟩
        go_wp2_with fail
        go_ret
        exact ⟨rfl, (CB.out.trans (HB.out.mono CB.out.size)).trans (hb3.mono (Nat.le_trans CB.out.size HB.out.size))⟩
open Go.ChangeShapes Go.WideShapes Go.ChangeAt
/-- A code that came in, opened. -/
theorem open_code {H : Type} {enc : TypeId × Value → H} {W : World} {base : Nat} {v : Value} {d : DataW H} {p : List MemPlace} (hk : Value.okWide Try.prog W .any base 23 v) (h : DataW.Trod enc Try.prog W 0 (fun _ => true) true 23 v d p) :
    ∃ c nm m u wd, v = codeV c nm m u wd ∧ 0 ≤ u := by
  obtain ⟨cs, rfl, hsz⟩ := okWide_struct Try.underlying23 hk
  have hsz' : cs.size = 5 := hsz.trans (by kernel_rfl)
  obtain ⟨l⟩ := cs
  match l, hsz' with
  | [v0, v1, v2, v3, v4], _ =>
    obtain ⟨fuel, hf⟩ := h
    obtain ⟨xs, n, _, hx, hl, hlen, hq⟩ := DataW.trod_struct Try.underlying23 hf
    have hlen' : xs.length = 5 := hlen
    have CS : Try.prog.cellsOf 9 = 1 := by kernel_rfl
    have C8 : Try.prog.cellsOf 5 = 1 := by kernel_rfl
    have h0 := hq 0 _ rfl
    rw [List.getElem?_eq_getElem (show 0 < xs.length by omega)] at h0
    simp [Value.cells, CS, C8] at h0
    obtain ⟨n0, e0, _, w0⟩ := DataW.trod_int Try.underlying5 h0
    simp at e0
    subst e0
    have h1 := hq 1 _ rfl
    rw [List.getElem?_eq_getElem (show 1 < xs.length by omega)] at h1
    simp [Value.cells, CS, C8] at h1
    obtain ⟨n1, e1, _, _⟩ := DataW.trod_string Try.underlying9 h1
    simp at e1
    subst e1
    have h2 := hq 2 _ rfl
    rw [List.getElem?_eq_getElem (show 2 < xs.length by omega)] at h2
    simp [Value.cells, CS, C8] at h2
    obtain ⟨n2, e2, _, w2⟩ := DataW.trod_int Try.underlying5 h2
    simp at e2
    subst e2
    have h3 := hq 3 _ rfl
    rw [List.getElem?_eq_getElem (show 3 < xs.length by omega)] at h3
    simp [Value.cells, CS, C8] at h3
    obtain ⟨n3, e3, _, w3⟩ := DataW.trod_int Try.underlying5 h3
    simp at e3
    subst e3
    have h4 := hq 4 _ rfl
    rw [List.getElem?_eq_getElem (show 4 < xs.length by omega)] at h4
    simp [Value.cells, CS, C8] at h4
    obtain ⟨n4, e4, _, w4⟩ := DataW.trod_int Try.underlying5 h4
    simp at e4
    subst e4
    have b3 := wf_u8 w3
    exact ⟨n0, n1, n2, n3, n4, rfl, b3.1⟩

theorem walk (H : Type) (enc : TypeId × Value → H) (W : World) (base : Nat) (v0 v1 v2 : Value) {d0 d1 d2 : DataW H} {p0 p1 p2 : List MemPlace} (k0 : Value.okWide Try.prog W .any base 23 v0) (h0 : DataW.Trod enc Try.prog W 0 (fun _ => true) true 23 v0 d0 p0)
    (k1 : Value.okWide Try.prog W .any base 26 v1) (h1 : DataW.Trod enc Try.prog W 0 (fun _ => true) true 26 v1 d1 p1)
    (k2 : Value.okWide Try.prog W .any base 27 v2) (h2 : DataW.Trod enc Try.prog W 0 (fun _ => true) true 27 v2 d2 p2) (hsz : (DataW.weightsEach Try.prog [23, 26, 27] [d0, d1, d2]).all (· ≤ reachBytes) = true) :
    Calls Try.prog 3 #[v0, v1, v2] W fun e w' => e = .returned (.bool true) ∧ Below W.heap.size W w' := by
  obtain ⟨c, nm, m, u, wd, rfl, u0⟩ := open_code k0 h0
  obtain ⟨r, rfl, ok⟩ := reachSettles.open_regs k1 h1
  have hB : Try.prog.bytesOf 5 = 1 := by kernel_rfl
  obtain ⟨n, f, S, ⟨ao, room, rfl, r1, r2⟩, h3, h4, h5⟩ := openRoom Try.underlying27 Try.underlying5 (by kernel_rfl) hB k2 h2 (fun elems spare e => sized_slice hsz (j := 2) (t := 27) (e := 5) rfl (by rw [← e]; rfl) Try.underlying27)
  exact law c m u wd nm r ao n room f W ok u0 S r1 r2 (by omega) (fun j hj => wf_u8 (h5 j hj))
end Go.Proofs.Ytmejjejafimhfaa.reachGrows
