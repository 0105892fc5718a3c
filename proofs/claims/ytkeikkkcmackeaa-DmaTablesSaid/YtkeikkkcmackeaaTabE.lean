/- DmaTables, in plain words: line by line. -/
import Derived.Test.YtkeikkkcmackeaaTabD
namespace Go.Proofs.Ytkeikkkcmackeaa
set_option linter.unusedVariables false
set_option linter.unusedSimpArgs false

variable {ch : Nat} {m tp : Int} {n : Nat} {Bs : List Int} {Ls : List (List Int)} {k moved : Nat} {f : Nat → Int}
theorem AtL.ends (h : AtL ch m tp n Bs Ls Ls.length f) : ∃ p ctr d, Tq ch m tp f p 0 0 0 ctr d (bitOf ch) := by
  obtain ⟨p, ⟨c, v, j, es, hm, _⟩ | ⟨_, ctr, d, h⟩⟩ := h
  · have := (List.getElem?_eq_some_iff.mp hm.line.1).1
    omega
  · exact ⟨p, ctr, d, h⟩
theorem AtL.line (hc : ch < 8) (hn : (n : Int) = lenOf m) (n1 : 1 ≤ n) (m0 : 0 ≤ m) (m7 : m ≤ 7) (h : AtL ch m tp n Bs Ls k f) (hk : k < Ls.length) :
    Rng f ∧ bits .andNot .u8 (f 98) (f 99) = bitOf ch ∧ f 101 = 0 ∧ ∃ is x, InL ch m tp n Bs Ls k 0 (linF ch (lineA (bitOf ch) f)) is x := by
  obtain ⟨_, _, _, _, _, _, _, _, _, ba⟩ := bitFacts ch hc
  obtain ⟨p, ⟨c, v, j, es, hm, ht⟩ | ⟨e, _⟩⟩ := h
  case inr => omega
  refine ⟨ht.r, by rw [ht.htb, ht.hen, ba], ht.hwy, ?_⟩
  obtain ⟨l1, l2, l3, l4⟩ := hm.line
  have hcn : (cntOf c : Int) = c % 128 := by have := hm.c0; unfold cntOf; omega
  have hjl := hm.jl
  have hc0 := hm.c0
  have hc1 := hm.c1
  by_cases hd : j = 0 ∨ 128 < c
  · rw [if_pos hd] at ht
    refine ⟨true, (2, ((p + 0 : Nat) : Int), (tp + patOf m (0 : Nat)) % 256), _, l1, tline_len c v n j, Or.inl ⟨p, c, v, j, es, hm, rfl, hd, n1, ?_, rfl, rfl⟩⟩
    exact ht.line1 hc
  · rw [if_neg hd] at ht
    have htl := tline_none (c := c) (v := v) (n := n) hd
    rw [htl, List.length_nil, Nat.add_zero] at l3 l4
    obtain ⟨a1, a2⟩ := Tq.line0 hc (z := c - j - 1) (by rw [show c - j - 1 + 1 = c - j by omega]; exact ht) (by omega) (by omega)
    by_cases hz : c - j - 1 = 0
    · refine ⟨true, (1, (p : Int), 0), _, l1, tline_len c v n j, Or.inr (Or.inl ⟨p, es, c - j - 1, 0, l4 (by omega), Or.inl rfl, a1 hz, by rw [htl]; rfl, rfl, rfl⟩)⟩
    · refine ⟨false, (0, 0, 0), _, l1, tline_len c v n j, Or.inr (Or.inr ⟨⟨p, Or.inl ⟨c, v, j + 1, es, l3 (by omega), ?_⟩⟩, by rw [htl]; rfl, rfl, rfl⟩)⟩
      rw [if_neg (by omega)]
      have := a2 hz
      rwa [show c - j - 1 = c - ((j + 1 : Nat) : Int) by omega] at this
theorem InL.next {is : Bool} {x : Int × Int × Int} (m0 : 0 ≤ m) (m7 : m ≤ 7) (hn : n ≤ 4) (h : InL ch m tp n Bs Ls k moved f is x) :
    (is = true → Rng f ∧ tabT ch f = x ∧ f 102 = bitOf ch ∧ f (ch * 12) / 64 % 2 = 0 ∧ f 101 ≠ 0) ∧ (is = false → x = (0, 0, 0) ∧ f 96 = 0 ∧ f 101 = 0) := by
  obtain ⟨tl, hl, htn, ⟨p, c, v, j, es, hm, ht, hd, hmv, tq, rfl, rfl⟩ | ⟨p, es, ctr, d, hf, hd, tq, hmv, rfl, rfl⟩ | ⟨⟨p, ⟨c, v, j, es, hm, tq⟩ | ⟨e, ctr, d, tq⟩⟩, hmv, rfl, rfl⟩⟩ := h
  · exact ⟨fun _ => ⟨tq.r, (tq.nextT m0 m7).2 (by omega), tq.hbf, by rw [tq.hm]; omega, by rw [tq.hwy]; decide⟩, fun h => by cases h⟩
  · exact ⟨fun _ => ⟨tq.r, (tq.nextT m0 m7).1 (by omega), tq.hbf, by rw [tq.hm]; omega, by rw [tq.hwy]; decide⟩, fun h => by cases h⟩
  · exact ⟨fun h => (by cases h), fun _ => ⟨rfl, tq.hz, tq.hwy⟩⟩
  · exact ⟨fun h => (by cases h), fun _ => ⟨rfl, tq.hz, tq.hwy⟩⟩
theorem InL.over {x : Int × Int × Int} (h : InL ch m tp n Bs Ls k moved f false x) : AtL ch m tp n Bs Ls (k + 1) f ∧ ∃ tl, Ls[k]? = some tl ∧ moved = tl.length := by
  obtain ⟨tl, hl, htn, ⟨p, c, v, j, es, hm, ht, hd, hmv, tq, hh, _⟩ | ⟨p, es, ctr, d, hf, hd, tq, hmv, hh, _⟩ | ⟨h1, h2, _, _⟩⟩ := h
  · cases hh
  · cases hh
  · exact ⟨h1, tl, hl, h2⟩
/-- What an entry's first byte brings. -/
theorem Fresh.read (hc : ch < 8) {p : Nat} {es : List (Int × Int)} {way ctr d : Int} (hf : Fresh n Bs Ls p k es) (hk : k ≤ Ls.length) (tq : Tq ch m tp f p (bitOf ch) way 8 ctr d 0) (hd : d = 0 ∨ d = bitOf ch) (hB : Bs.length ≤ 30000) :
    ∃ v, Bs[p]? = some v ∧ 0 ≤ v ∧ v ≤ 255 ∧ AtL ch m tp n Bs Ls k (entF ch v f) := by
  rcases hf.next with ⟨h1, h2⟩ | ⟨c, v, es', h1, h2, h3⟩
  · have hp := (List.getElem?_eq_some_iff.mp h1).1
    exact ⟨0, h1, by omega, by omega, p + 1, Or.inr ⟨by omega, 0, d, (tq.entry hc (by omega) hd (v := 0) (by omega) (by omega)).2 rfl⟩⟩
  · have hp := (List.getElem?_eq_some_iff.mp h1).1
    refine ⟨c, h1, h3.c0, h3.c1, p + 1, Or.inl ⟨c, v, 0, es', h3, ?_⟩⟩
    rw [if_pos (Or.inl rfl), show c - ((0 : Nat) : Int) = c by omega]
    exact (tq.entry hc (by omega) hd h3.c0 h3.c1).1 h2
theorem InL.done (hc : ch < 8) (hn : (n : Int) = lenOf m) (n4 : n ≤ 4) {x : Int × Int × Int} (hB : Bs.length ≤ 30000) (h : InL ch m tp n Bs Ls k moved f true x) :
    ∃ (A : Nat) (v : Int) (tl : List Int), x.2.1 = A ∧ A < Bs.length ∧ Bs[A]? = some v ∧ 0 ≤ v ∧ v ≤ 255 ∧ k < Ls.length ∧ Ls[k]? = some tl ∧
      ((x.1 = 2 ∧ moved < tl.length ∧ tl.length ≤ 4 ∧ tl[moved]? = some v ∧ x.2.2 = (tp + patOf m moved) % 256 ∧ f 103 < 8 ∧ ∃ is' x', InL ch m tp n Bs Ls k (moved + 1) (uniF ch f) is' x') ∨
       (x.1 = 1 ∧ moved ≤ 4 ∧ f 103 = 8 ∧ ∃ x', InL ch m tp n Bs Ls k moved (entF ch v f) false x')) := by
  obtain ⟨tl, hl, htn, ⟨p, c, v, j, es, hm, ht, hd, hmv, tq, _, rfl⟩ | ⟨p, es, ctr, d, hf, hd, tq, hmv, _, rfl⟩ | ⟨_, _, hh, _⟩⟩ := h
  · subst ht
    have hlen := tline_full (v := v) (n := n) hd
    obtain ⟨l1, l2, l3, l4⟩ := hm.line
    have hcn : (cntOf c : Int) = c % 128 := by have := hm.c0; unfold cntOf; omega
    have hjl := hm.jl
    have hc0 := hm.c0
    have hc1 := hm.c1
    have hx : (tline c v n j)[moved]? = some ((tline c v n j)[moved]'(by omega)) := by simp
    obtain ⟨y, hy⟩ : ∃ y, (tline c v n j)[moved]'(by omega) = y := ⟨_, rfl⟩
    rw [hy] at hx
    have hb := l2 _ _ hx
    have hA := (List.getElem?_eq_some_iff.mp hb).1
    obtain ⟨y0, y1⟩ := tline_rng hx
    refine ⟨p + moved, y, _, rfl, hA, hb, y0, y1, (List.getElem?_eq_some_iff.mp hl).1, hl, Or.inl ⟨rfl, by omega, by omega, hx, rfl, by rw [tq.hst]; omega, ?_⟩⟩
    by_cases hs : moved + 1 < n
    · have t := tq.unit hc (by omega) (by omega) (by omega) (by omega)
      refine ⟨true, (2, ((p + (moved + 1) : Nat) : Int), (tp + patOf m ((moved + 1 : Nat) : Int)) % 256), _, hl, htn, Or.inl ⟨p, c, v, j, es, hm, rfl, hd, hs, ?_, rfl, rfl⟩⟩
      exact t
    · obtain ⟨a1, a2⟩ := Tq.unitLast hc (z := c - j - 1) (by rw [show c - j - 1 + 1 = c - j by omega]; exact tq) (by omega) (by omega) (by omega) (by omega) (by omega) (by omega)
      rw [hlen] at l3 l4
      have hp : p + moved + 1 = p + n := by omega
      rw [hp] at a1 a2
      by_cases hz : (c - j - 1) % 128 = 0
      · refine ⟨true, (1, ((p + n : Nat) : Int), 0), _, hl, htn, Or.inr (Or.inl ⟨p + n, es, _, _, l4 (by omega), ?_, a1 hz, by omega, rfl, rfl⟩)⟩
        split
        · exact Or.inr rfl
        · exact Or.inl rfl
      · refine ⟨false, (0, 0, 0), _, hl, htn, Or.inr (Or.inr ⟨⟨p + n, Or.inl ⟨c, v, j + 1, es, l3 (by omega), ?_⟩⟩, by omega, rfl, rfl⟩)⟩
        have t := a2 hz
        rw [show c - j - 1 = c - ((j + 1 : Nat) : Int) by omega] at t
        by_cases h8 : 128 < c
        · rw [if_pos (Or.inr h8)]
          rwa [if_pos (by omega)] at t
        · rw [if_neg (by omega)]
          rwa [if_neg (by omega)] at t
  · have hkl := (List.getElem?_eq_some_iff.mp hl).1
    obtain ⟨v, h1, h2, h3, h4⟩ := hf.read hc (by omega) tq hd hB
    have hp := (List.getElem?_eq_some_iff.mp h1).1
    exact ⟨p, v, tl, rfl, hp, h1, h2, h3, hkl, hl, Or.inr ⟨rfl, by omega, tq.hst, (0, 0, 0), tl, hl, htn, Or.inr (Or.inr ⟨h4, hmv, rfl, rfl⟩)⟩⟩
  · cases hh
end Go.Proofs.Ytkeikkkcmackeaa
