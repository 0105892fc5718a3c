/- The walker in memory, and the contracts of its methods. -/
import Derived.Test.YtmejjejafimhfaaReachA
import Derived.Test.YtmejjejafimhfaaRel
import Derived.Test.YtmejjejafimhfaaKeep
namespace Go.Proofs.Ytmejjejafimhfaa
open Go.RowKit
set_option linter.unusedVariables false
set_option linter.unusedSimpArgs false

/-- Registers. -/
structure Rg where
  (a x y s d pc b k p : Int)
  e : Bool
def Rg.ok (r : Rg) : Prop := 0 ≤ r.a ∧ r.a ≤ 65535 ∧ 0 ≤ r.x ∧ r.x ≤ 65535 ∧ 0 ≤ r.y ∧ r.y ≤ 65535 ∧ 0 ≤ r.s ∧ r.s ≤ 65535 ∧ 0 ≤ r.d ∧ r.d ≤ 65535 ∧ 0 ≤ r.pc ∧ r.pc ≤ 65535 ∧ 0 ≤ r.b ∧ r.b ≤ 255 ∧ 0 ≤ r.k ∧ r.k ≤ 255 ∧ 0 ≤ r.p ∧ r.p ≤ 255
/-- An access: its kind, its address, its byte. -/
abbrev Acc := Int × Int × Int
/-- A walker in block g. -/
structure Wk (w : World) (g : Nat) (r : Rg) (sv : Value) (L : List Acc) (st : Bool) : Prop where
  ex : ∃ cs : Array Value, Blk w g 47 cs ∧ cs.size = 49 ∧ cs[0]? = some (.int .u16 r.a) ∧ cs[1]? = some (.int .u16 r.x) ∧ cs[2]? = some (.int .u16 r.y) ∧ cs[3]? = some (.int .u16 r.s) ∧ cs[4]? = some (.int .u16 r.d) ∧ cs[5]? = some (.int .u16 r.pc) ∧ cs[6]? = some (.int .u8 r.b) ∧ cs[7]? = some (.int .u8 r.k) ∧ cs[8]? = some (.int .u8 r.p) ∧ cs[9]? = some (.bool r.e) ∧
    cs[10]? = some sv ∧ cs[47]? = some (.int .i64 L.length) ∧ cs[48]? = some (.bool st) ∧ ∀ i (h : i < L.length), cs[11 + i * 3]? = some (.int .u8 L[i].1) ∧ cs[11 + i * 3 + 1]? = some (.int .u32 L[i].2.1) ∧ cs[11 + i * 3 + 2]? = some (.int .u8 L[i].2.2)
  len : L.length ≤ 12

section
variable {w w' : World} {g : Nat} {r : Rg} {sv : Value} {L : List Acc} {st : Bool}
theorem Wk.lt (h : Wk w g r sv L st) : g < w.heap.size := by obtain ⟨⟨cs, hb, _⟩, _⟩ := h; exact hb.lt
theorem Wk.kept (h : Wk w g r sv L st) (k : Below w.heap.size w w') : Wk w' g r sv L st := by
  obtain ⟨⟨cs, hb, q⟩, hl⟩ := h; exact ⟨⟨cs, hb.kept k, q⟩, hl⟩
theorem Wk.frozen (h : Wk w g r sv L st) (i : Nat) : w.frozen? ⟨g, i, none⟩ = false := by obtain ⟨⟨cs, hb, _⟩, _⟩ := h; exact hb.frozen i
theorem Wk.cell (h : Wk w g r sv L st) {i : Nat} (hi : i < 49) : ∃ v, w.cell? ⟨g, i, none⟩ = some v := by
  obtain ⟨⟨cs, hb, hs, _⟩, _⟩ := h
  rw [hb.cell]
  exact ⟨cs[i], by simp [hs, hi]⟩
/-- The cells with names. -/
theorem Wk.regs (h : Wk w g r sv L st) : w.cell? ⟨g, 0, none⟩ = some (.int .u16 r.a) ∧ w.cell? ⟨g, 1, none⟩ = some (.int .u16 r.x) ∧ w.cell? ⟨g, 2, none⟩ = some (.int .u16 r.y) ∧ w.cell? ⟨g, 3, none⟩ = some (.int .u16 r.s) ∧ w.cell? ⟨g, 4, none⟩ = some (.int .u16 r.d) ∧ w.cell? ⟨g, 5, none⟩ = some (.int .u16 r.pc) ∧ w.cell? ⟨g, 6, none⟩ = some (.int .u8 r.b) ∧ w.cell? ⟨g, 7, none⟩ = some (.int .u8 r.k) ∧ w.cell? ⟨g, 8, none⟩ = some (.int .u8 r.p) ∧ w.cell? ⟨g, 9, none⟩ = some (.bool r.e) := by
  obtain ⟨⟨cs, hb, hs, h0, h1, h2, h3, h4, h5, h6, h7, h8, h9, _⟩, _⟩ := h
  exact ⟨(hb.cell 0).trans h0, (hb.cell 1).trans h1, (hb.cell 2).trans h2, (hb.cell 3).trans h3, (hb.cell 4).trans h4, (hb.cell 5).trans h5, (hb.cell 6).trans h6, (hb.cell 7).trans h7, (hb.cell 8).trans h8, (hb.cell 9).trans h9⟩
theorem Wk.seen (h : Wk w g r sv L st) : w.cell? ⟨g, 10, none⟩ = some sv := by
  obtain ⟨⟨cs, hb, hs, _, _, _, _, _, _, _, _, _, _, h10, _⟩, _⟩ := h; exact (hb.cell 10).trans h10
theorem Wk.num (h : Wk w g r sv L st) : w.cell? ⟨g, 47, none⟩ = some (.int .i64 L.length) := by
  obtain ⟨⟨cs, hb, hs, _, _, _, _, _, _, _, _, _, _, _, h47, _⟩, _⟩ := h; exact (hb.cell 47).trans h47
theorem Wk.stuck (h : Wk w g r sv L st) : w.cell? ⟨g, 48, none⟩ = some (.bool st) := by
  obtain ⟨⟨cs, hb, hs, _, _, _, _, _, _, _, _, _, _, _, _, h48, _⟩, _⟩ := h; exact (hb.cell 48).trans h48
theorem get_set (cs : Array Value) (i j : Nat) (v : Value) : (cs.setIfInBounds i v)[j]? = if i = j ∧ j < cs.size then some v else cs[j]? := by
  rw [Array.getElem?_setIfInBounds]
  by_cases e : i = j
  · subst e
    by_cases k : i < cs.size
    · simp [k]
    · simp [k]
  · simp [e]
/-- One access more. -/
theorem Wk.push (h : Wk w g r sv L st) (hl : L.length < 12) (x : Acc) :
    Wk ((((w.setCell ⟨g, 11 + L.length * 3, none⟩ (.int .u8 x.1)).setCell ⟨g, 11 + L.length * 3 + 1, none⟩ (.int .u32 x.2.1)).setCell ⟨g, 11 + L.length * 3 + 2, none⟩ (.int .u8 x.2.2)).setCell ⟨g, 47, none⟩ (.int .i64 (L.length + 1))) g r sv (L ++ [x]) st := by
  obtain ⟨⟨cs, hb, hs, h0, h1, h2, h3, h4, h5, h6, h7, h8, h9, h10, h47, h48, hL⟩, hl2⟩ := h
  refine ⟨⟨_, (((hb.set_ _ _).set_ _ _).set_ _ _).set_ _ _, by simpa using hs, ?_⟩, by simp; omega⟩
  refine ⟨?_, ?_, ?_, ?_, ?_, ?_, ?_, ?_, ?_, ?_, ?_, ?_, ?_, ?_⟩
  all_goals try (rw [get_set, if_neg (by omega), get_set, if_neg (by omega), get_set, if_neg (by omega), get_set, if_neg (by omega)]; assumption)
  · rw [get_set, if_pos ⟨rfl, by simp [hs]⟩]; simp
  · intro i hi
    rcases Nat.lt_or_ge i L.length with k | k
    · have e : (L ++ [x])[i] = L[i] := List.getElem_append_left k
      rw [e]
      have := hL i k
      refine ⟨?_, ?_, ?_⟩
      · rw [get_set, if_neg (by omega), get_set, if_neg (by omega), get_set, if_neg (by omega), get_set, if_neg (by omega)]; exact this.1
      · rw [get_set, if_neg (by omega), get_set, if_neg (by omega), get_set, if_neg (by omega), get_set, if_neg (by omega)]; exact this.2.1
      · rw [get_set, if_neg (by omega), get_set, if_neg (by omega), get_set, if_neg (by omega), get_set, if_neg (by omega)]; exact this.2.2
    · have ei : i = L.length := by simp at hi; omega
      subst ei
      have e : (L ++ [x])[L.length] = x := by simp
      rw [e]
      refine ⟨?_, ?_, ?_⟩
      · rw [get_set, if_neg (by omega), get_set, if_neg (by omega), get_set, if_neg (by omega), get_set, if_pos ⟨rfl, by omega⟩]
      · rw [get_set, if_neg (by omega), get_set, if_neg (by omega), get_set, if_pos ⟨rfl, by simp [hs]; omega⟩]
      · rw [get_set, if_neg (by omega), get_set, if_pos ⟨rfl, by simp [hs]; omega⟩]
theorem Wk.setSeen (h : Wk w g r sv L st) (v : Value) : Wk (w.setCell ⟨g, 10, none⟩ v) g r v L st := by
  obtain ⟨⟨cs, hb, hs, h0, h1, h2, h3, h4, h5, h6, h7, h8, h9, h10, h47, h48, hL⟩, hl2⟩ := h
  refine ⟨⟨_, hb.set_ _ _, by simpa using hs, ?_⟩, hl2⟩
  refine ⟨?_, ?_, ?_, ?_, ?_, ?_, ?_, ?_, ?_, ?_, ?_, ?_, ?_, ?_⟩
  all_goals try (rw [get_set, if_neg (by omega)]; assumption)
  · rw [get_set, if_pos ⟨rfl, by omega⟩]
  · intro i hi
    rw [get_set, if_neg (by omega), get_set, if_neg (by omega), get_set, if_neg (by omega)]
    exact hL i hi
theorem Wk.setStuck (h : Wk w g r sv L st) (b : Bool) : Wk (w.setCell ⟨g, 48, none⟩ (.bool b)) g r sv L b := by
  obtain ⟨⟨cs, hb, hs, h0, h1, h2, h3, h4, h5, h6, h7, h8, h9, h10, h47, h48, hL⟩, hl2⟩ := h
  refine ⟨⟨_, hb.set_ _ _, by simpa using hs, ?_⟩, hl2⟩
  refine ⟨?_, ?_, ?_, ?_, ?_, ?_, ?_, ?_, ?_, ?_, ?_, ?_, ?_, ?_⟩
  all_goals try (rw [get_set, if_neg (by omega)]; assumption)
  · rw [get_set, if_pos ⟨rfl, by omega⟩]
  · intro i hi
    rw [get_set, if_neg (by omega), get_set, if_neg (by omega), get_set, if_neg (by omega)]
    exact hL i hi
theorem Wk.setPc (h : Wk w g r sv L st) (n : Int) : Wk (w.setCell ⟨g, 5, none⟩ (.int .u16 n)) g { r with pc := n } sv L st := by
  obtain ⟨⟨cs, hb, hs, h0, h1, h2, h3, h4, h5, h6, h7, h8, h9, h10, h47, h48, hL⟩, hl2⟩ := h
  refine ⟨⟨_, hb.set_ _ _, by simpa using hs, ?_⟩, hl2⟩
  refine ⟨?_, ?_, ?_, ?_, ?_, ?_, ?_, ?_, ?_, ?_, ?_, ?_, ?_, ?_⟩
  all_goals try (rw [get_set, if_neg (by omega)]; assumption)
  · rw [get_set, if_pos ⟨rfl, by omega⟩]
  · intro i hi
    rw [get_set, if_neg (by omega), get_set, if_neg (by omega), get_set, if_neg (by omega)]
    exact hL i hi
end

/-- The accesses behind one more. -/
def addL (L : List Acc) (st : Bool) (x : Acc) : List Acc := if st = false ∧ L.length < 12 then L ++ [x] else L
abbrev accV (x : Acc) : Value := .agg #[.int .u8 x.1, .int .u32 x.2.1, .int .u8 x.2.2]
/-- What a method without a result leaves. -/
def Did (W : World) (g : Nat) (r : Rg) (sv : Value) (L : List Acc) (st : Bool) (e : Ending) (w' : World) : Prop := e = .returned (.tuple #[]) ∧ Wk w' g r sv L st ∧ Upd W g w'

set_option maxHeartbeats 1000000 in
theorem add_any (k ad v : Int) (g : Nat) (r : Rg) (sv : Value) (L : List Acc) (st : Bool) (w : World) (h : Wk w g r sv L st) :
    Calls Try.prog 34 #[.pointer (some ⟨g, 0, none⟩), accV (k, ad, v)] w (Did w g r sv (addL L st (k, ad, v)) st) := by
  have hst := h.stuck
  have hnm := h.num
  have hlt := h.lt
  have HW := Lib.hid h
  have hlen := h.len
  by_cases c : st = false ∧ L.length < 12
  · obtain ⟨rfl, c2⟩ := c
    have e : addL L false (k, ad, v) = L ++ [(k, ad, v)] := by unfold addL; rw [if_pos ⟨rfl, c2⟩]
    rw [e]
    obtain ⟨n, hn⟩ : ∃ n, L.length = n := ⟨_, rfl⟩
    rw [hn] at hnm c2 hlen
    obtain ⟨v0, z0⟩ := h.cell (i := 11 + n * 3) (by omega)
    obtain ⟨v1, z1⟩ := h.cell (i := 11 + n * 3 + 1) (by omega)
    obtain ⟨v2, z2⟩ := h.cell (i := 11 + n * 3 + 2) (by omega)
    have f0 := h.frozen (11 + n * 3)
    have f1 := h.frozen (11 + n * 3 + 1)
    have f2 := h.frozen (11 + n * 3 + 2)
    have f3 := h.frozen 47
    have HN := Lib.hid hn
    clear h e hn
    go_enter Try.func34, Try.ntmps34
    go_wp2_with fail
    obtain ⟨W1, hW1⟩ : ∃ W1, W1 = w.alloc (.cells #[.int .u8 k, .int .u32 ad, .int .u8 v] 37) := ⟨_, rfl⟩
    obtain ⟨B, hB⟩ : ∃ B, B = w.heap.size := ⟨_, rfl⟩
    have b0 : W1.cell? ⟨B, 0, none⟩ = some (.int .u8 k) := by rw [hW1, hB]; simp [go_sem]
    have b1 : W1.cell? ⟨B, 1, none⟩ = some (.int .u32 ad) := by rw [hW1, hB]; simp [go_sem]
    have b2 : W1.cell? ⟨B, 2, none⟩ = some (.int .u8 v) := by rw [hW1, hB]; simp [go_sem]
    have kb : Below w.heap.size w W1 := by rw [hW1]; exact belowA (Below.refl _ _) _
    rw [← hW1, ← hB]
    have hgB : g ≠ B := by omega
    have hBg : B ≠ g := by omega
    have z0 := keepC kb z0
    have z1 := keepC kb z1
    have z2 := keepC kb z2
    have hnm := keepC kb hnm
    have g0 : W1.frozen? ⟨g, 11 + n * 3, none⟩ = false := by rw [← f0]; exact kb.frozen (p := ⟨g, 11 + n * 3, none⟩) hlt
    have g1 : W1.frozen? ⟨g, 11 + n * 3 + 1, none⟩ = false := by rw [← f1]; exact kb.frozen (p := ⟨g, 11 + n * 3 + 1, none⟩) hlt
    have g2 : W1.frozen? ⟨g, 11 + n * 3 + 2, none⟩ = false := by rw [← f2]; exact kb.frozen (p := ⟨g, 11 + n * 3 + 2, none⟩) hlt
    have g3 : W1.frozen? ⟨g, 47, none⟩ = false := by rw [← f3]; exact kb.frozen (p := ⟨g, 47, none⟩) hlt
    have KB := Lib.hid kb
    have q1 : (0 : Int) ≤ ↑n := by omega
    have q2 : (n : Int) < 12 := by omega
    clear hW1 hB kb f0 f1 f2 f3 hst
    go_region_held3 (fun w' => w'.cell? ⟨B, 0, none⟩ = some (.int .u8 k) ∧ w'.cell? ⟨B, 1, none⟩ = some (.int .u32 ad) ∧ w'.cell? ⟨B, 2, none⟩ = some (.int .u8 v) ∧ w'.cell? ⟨g, 47, none⟩ = some (.int .i64 n)) (first | exact ⟨b0, b1, b2, hnm⟩ | exact ⟨keepSet (keepSet (keepSet b0 hBg) hBg) hBg, keepSet (keepSet (keepSet b1 hBg) hBg) hBg, keepSet (keepSet (keepSet b2 hBg) hBg) hBg, keepSetO (keepSetO (keepSetO hnm (by omega)) (by omega)) (by omega)⟩) (first | fail)
    go_split_ands
    go_wp2_with fail
    go_end0
    refine ⟨rfl, ?_, ?_⟩
    · have := (HW.out.kept KB.out).push (x := (k, ad, v)) (by rw [HN.out]; exact c2)
      rw [HN.out] at this
      exact this.kept (belowD (Below.refl _ _))
    · exact (((((Upd.ofBelow KB.out g).set _ _).set _ _).set _ _).set _ _).drew
  · have e : addL L st (k, ad, v) = L := by unfold addL; rw [if_neg c]
    rw [e]
    have hc : st = true ∨ (st = false ∧ 12 ≤ (L.length : Int)) := by
      cases st
      · exact Or.inr ⟨rfl, by have : ¬ L.length < 12 := fun h => c ⟨rfl, h⟩; omega⟩
      · exact Or.inl rfl
    clear c e h
    rcases hc with rfl | ⟨rfl, c2⟩
    all_goals
      go_enter Try.func34, Try.ntmps34
      go_wp2_with fail
      go_end0
      exact ⟨rfl, HW.out.kept (belowA (Below.refl _ _) _), Upd.ofBelow (belowA (Below.refl _ _) _) _⟩

/-- The bytes that a walker has not read yet. -/
structure Sn (w : World) (g : Nat) (sv : Value) (bs : List Int) : Prop where
  ex : ∃ ao c, sv = .slice ao bs.length c ∧ bs.length ≤ c ∧ c ≤ 9223372036854775807 ∧ (bs = [] ∨ ∃ b off, ao = some ⟨b, off, none⟩ ∧ b < g ∧ ∀ j x, bs[j]? = some x → w.cell? ⟨b, off + j, none⟩ = some (.int .u8 x))
  rng : ∀ x ∈ bs, 0 ≤ x ∧ x ≤ 255
theorem Sn.kept {w w' : World} {g : Nat} {sv : Value} {bs : List Int} (h : Sn w g sv bs) (k : Upd w g w') : Sn w' g sv bs := by
  obtain ⟨⟨ao, c, e, h1, h2, h3⟩, hr⟩ := h
  refine ⟨⟨ao, c, e, h1, h2, h3.imp id fun ⟨b, off, e1, e2, e4⟩ => ⟨b, off, e1, e2, fun j x hx => keepU k (e4 j x hx) (Nat.ne_of_lt e2)⟩⟩, hr⟩

/-- What Read gives: its byte, the rest, whether the walker is stuck. -/
def rdB (bs : List Int) : Int := bs.headD 0
def rdS (bs : List Int) (st : Bool) : Bool := if bs = [] then true else st
def ReadOut (W : World) (g : Nat) (r : Rg) (bs : List Int) (L : List Acc) (st : Bool) (ad : Int) (e : Ending) (w' : World) : Prop :=
  ∃ sv', e = .returned (.int .u8 (rdB bs)) ∧ Wk w' g r sv' (addL L st (1, ad % 16777216, 0)) (rdS bs st) ∧ Sn w' g sv' bs.tail ∧ Upd W g w'

set_option maxHeartbeats 1000000 in
theorem read_any (ad : Int) (g : Nat) (r : Rg) (sv : Value) (bs : List Int) (L : List Acc) (st : Bool) (w : World) (h : Wk w g r sv L st) (hs : Sn w g sv bs) (a0 : 0 ≤ ad) (a1 : ad ≤ 4294967295) :
    Calls Try.prog 28 #[.pointer (some ⟨g, 0, none⟩), .int .u32 ad] w (ReadOut w g r bs L st ad) := by
  have e1 := and24_32 ad a0 a1
  have HW := Lib.hid h
  have HS := Lib.hid hs
  obtain ⟨⟨ao, c, rfl, h1, h2, h3⟩, hr⟩ := hs
  clear h
  go_enter Try.func28, Try.ntmps28
  go_wp2_with fail
  refine (add_any 1 (ad % 16777216) 0 g r _ L st _ HW.out).mono ?_
  rintro e w1 ⟨rfl, k1, u1⟩
  have s1 := k1.seen
  have f1 := k1.frozen 10
  have f2 := k1.frozen 48
  have c48 := k1.stuck
  have K1 := Lib.hid k1
  have U1 := Lib.hid u1
  have S1 := Lib.hid (HS.out.kept u1)
  clear k1 u1
  cases bs with
  | nil =>
    have q : ((0 : Int) == 0) = true := rfl
    simp only [List.length_nil] at s1 h1
    go_wp2_with fail
    go_ret
    exact ⟨_, rfl, K1.out.setStuck true, ⟨⟨ao, c, rfl, h1, h2, Or.inl rfl⟩, fun x hx => by cases hx⟩, U1.out.set _ _⟩
  | cons b bs =>
    obtain ⟨bb, off, rfl, n1', n3⟩ := h3.resolve_left (by simp)
    have n1 : bb ≠ g := Nat.ne_of_lt n1'
    have hb := keepU U1.out (n3 0 b rfl) n1
    have q : (((b :: bs).length : Int) == 0) = false := by simp; omega
    obtain ⟨m, hm⟩ : ∃ m, bs.length = m := ⟨_, rfl⟩
    simp only [List.length_cons, hm] at s1 h1 q
    rw [Nat.add_zero] at hb
    have HM := Lib.hid hm
    have N3 := Lib.hid n3
    have HR := Lib.hid hr
    clear hm n3 hr h3
    go_wp2_with fail
    all_goals
      go_ret
      have hm := HM.out
      refine ⟨_, rfl, K1.out.setSeen _, ⟨⟨_, _, by rw [List.tail_cons, hm], by rw [List.tail_cons, hm]; omega, by omega, ?_⟩, fun x hx => HR.out x (List.mem_of_mem_tail hx)⟩, U1.out.set _ _⟩
      by_cases hb0 : bs = []
      · exact Or.inl hb0
      · have hpos : 0 < bs.length := List.length_pos_iff.2 hb0
        first
          | (exfalso; omega)
          | exact Or.inr ⟨bb, off + 1, rfl, n1', fun j x hx => by
              have := keepU (U1.out.set 10 (.slice (some ⟨bb, off + 1, none⟩) m (c - 1))) (N3.out (j + 1) x (by simpa using hx)) n1
              rw [show off + (j + 1) = off + 1 + j by omega] at this
              exact this⟩

/-- Idle. -/
theorem idle_any (g : Nat) (r : Rg) (sv : Value) (L : List Acc) (st : Bool) (w : World) (h : Wk w g r sv L st) :
    Calls Try.prog 26 #[.pointer (some ⟨g, 0, none⟩)] w (Did w g r sv (addL L st (0, 0, 0)) st) := by
  have HW := Lib.hid h
  clear h
  go_enter Try.func26, Try.ntmps26
  go_wp2_with fail
  refine (add_any 0 0 0 g r _ L st _ HW.out).mono ?_
  rintro e w1 ⟨rfl, k1, u1⟩
  have K1 := Lib.hid k1
  have U1 := Lib.hid u1
  clear k1 u1
  go_wp2_with fail
  go_end0
  exact ⟨rfl, K1.out, U1.out⟩

end Go.Proofs.Ytmejjejafimhfaa
