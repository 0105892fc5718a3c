/- The modes in the direct page, and by the stack. -/
import Derived.Test.YtmejjejafimhfaaReachZ
namespace Go.Proofs.Ytmejjejafimhfaa
open Go.RowKit
set_option linter.unusedVariables false
set_option linter.unusedSimpArgs false

/-- A place that a method has of its own. -/
structure Own (w : World) (g B : Nat) (ad : Int) (bk : Bool) : Prop where
  b : Blk w B 31 #[.int .u32 ad, .bool bk]
  gt : g < B
theorem Own.upd {w w' : World} {g B : Nat} {ad : Int} {bk : Bool} (h : Own w g B ad bk) (k : Upd w g w') : Own w' g B ad bk := ⟨k.blk h.b (by have := h.gt; omega), h.gt⟩
theorem Own.facts {w : World} {g B : Nat} {ad : Int} {bk : Bool} (h : Own w g B ad bk) : w.cell? ⟨B, 0, none⟩ = some (.int .u32 ad) ∧ w.cell? ⟨B, 1, none⟩ = some (.bool bk) ∧ w.frozen? ⟨B, 0, none⟩ = false ∧ w.frozen? ⟨B, 1, none⟩ = false := ⟨h.b.cell 0, h.b.cell 1, h.b.frozen 0, h.b.frozen 1⟩
theorem In.put2 {w : World} {g : Nat} {s : St} (h : In w g s) {B : Nat} (hB : g < B) (u v : Value) : In ((w.setCell ⟨B, 0, none⟩ u).setCell ⟨B, 1, none⟩ v) g s := (h.upd2 (p := ⟨B, 0, none⟩) hB u).upd2 (p := ⟨B, 1, none⟩) hB v
theorem Upd.put2 {w w' : World} {g : Nat} (h : Upd w g w') {B : Nat} (hB : w.heap.size ≤ B) (u v : Value) : Upd w g ((w'.setCell ⟨B, 0, none⟩ u).setCell ⟨B, 1, none⟩ v) := (h.newer (p := ⟨B, 0, none⟩) hB u).newer (p := ⟨B, 1, none⟩) hB v
/-- A code and a place laid. -/
theorem laid2 (w : World) (g : Nat) (hg : g < w.heap.size) (c m u wd : Int) (nm : ByteArray) :
    Own ((w.alloc (.cells #[.int .u8 c, .string nm, .int .u8 m, .int .u8 u, .int .u8 wd] 23)).alloc (.cells #[.int .u32 0, .bool false] 31)) g (w.heap.size + 1) 0 false ∧
    ((w.alloc (.cells #[.int .u8 c, .string nm, .int .u8 m, .int .u8 u, .int .u8 wd] 23)).alloc (.cells #[.int .u32 0, .bool false] 31)).cell? ⟨w.heap.size, 2, none⟩ = some (.int .u8 m) ∧
    Below w.heap.size w ((w.alloc (.cells #[.int .u8 c, .string nm, .int .u8 m, .int .u8 u, .int .u8 wd] 23)).alloc (.cells #[.int .u32 0, .bool false] 31)) := by
  refine ⟨⟨?_, by omega⟩, by simp [go_sem], belowA (belowA (Below.refl _ _) _) _⟩
  have := Blk.new (w.alloc (.cells #[.int .u8 c, .string nm, .int .u8 m, .int .u8 u, .int .u8 wd] 23)) 31 #[.int .u32 0, .bool false]
  simpa using this

def mDirect (mode : Int) (s : St) : Int × St :=
  let q := mOffset s
  if mode = 6 then (directOf s.r.d s.r.e (q.1 + s.r.x), mIdle q.2)
  else if mode = 7 then (directOf s.r.d s.r.e (q.1 + s.r.y), mIdle q.2)
  else (directOf s.r.d s.r.e q.1, q.2)
def sameR (r t : Rg) : Prop := t.a = r.a ∧ t.x = r.x ∧ t.y = r.y ∧ t.s = r.s ∧ t.d = r.d ∧ t.b = r.b ∧ t.k = r.k ∧ t.p = r.p ∧ t.e = r.e
theorem sameR_refl (r : Rg) : sameR r r := ⟨rfl, rfl, rfl, rfl, rfl, rfl, rfl, rfl, rfl⟩
theorem sameR_fetch (s : St) : sameR s.r (mFetch s).2.r := ⟨rfl, rfl, rfl, rfl, rfl, rfl, rfl, rfl, rfl⟩
theorem page_r (s : St) : (mPage s).r = s.r := by unfold mPage; split <;> rfl
theorem sameR_offset (s : St) : sameR s.r (mOffset s).2.r := by
  simp only [mOffset, page_r]; exact sameR_fetch s

set_option maxHeartbeats 2000000 in
theorem direct_m (c m u wd : Int) (nm : ByteArray) (g : Nat) (s : St) (w : World) (h : In w g s) :
    Calls Try.prog 22 #[.pointer (some ⟨g, 0, none⟩), codeV c nm m u wd] w (Ret w g (placeV (mDirect m s).1 true) (mDirect m s).2) := by
  obtain ⟨a0, a1, x0, x1, y0, y1, _, _, d0, d1, _⟩ := h.ok
  have lg := h.lt
  have H := Lib.hid h
  obtain ⟨⟨o, s1⟩, hq⟩ : ∃ q, mOffset s = q := ⟨_, rfl⟩
  have hsr := sameR_offset s
  rw [hq] at hsr
  have HQ := Lib.hid hq
  have HR := Lib.hid hsr
  have L2 := laid2 w g lg c m u wd nm
  have hc : ((m == 6) = true ∧ mDirect m s = (directOf s.r.d s.r.e (o + s.r.x), mIdle s1)) ∨ ((m == 6) = false ∧ (m == 7) = true ∧ mDirect m s = (directOf s.r.d s.r.e (o + s.r.y), mIdle s1)) ∨ ((m == 6) = false ∧ (m == 7) = false ∧ mDirect m s = (directOf s.r.d s.r.e o, s1)) := by
    by_cases k1 : m = 6
    · exact Or.inl ⟨by simpa using k1, by simp only [mDirect, hq]; rw [if_pos k1]⟩
    by_cases k2 : m = 7
    · exact Or.inr (Or.inl ⟨by simpa using k1, by simpa using k2, by simp only [mDirect, hq]; rw [if_neg k1, if_pos k2]⟩)
    · exact Or.inr (Or.inr ⟨by simpa using k1, by simpa using k2, by simp only [mDirect, hq]; rw [if_neg k1, if_neg k2]⟩)
  clear h hq hsr
  rcases hc with ⟨k1, hm⟩ | ⟨k1, k2, hm⟩ | ⟨k1, k2, hm⟩
  all_goals
    rw [hm]
    clear hm
    go_enter Try.func22, Try.ntmps22
    go_wp2_with fail
    obtain ⟨W1, hW⟩ : ∃ W1, W1 = (w.alloc (.cells #[.int .u8 c, .string nm, .int .u8 m, .int .u8 u, .int .u8 wd] 23)).alloc (.cells #[.int .u32 0, .bool false] 31) := ⟨_, rfl⟩
    rw [← hW] at L2 ⊢
    obtain ⟨B, hB⟩ : ∃ B, B = w.heap.size := ⟨_, rfl⟩
    rw [← hB] at L2 ⊢
    obtain ⟨ow, cm, kb⟩ := L2
    have hgB : g < B + 1 := by omega
    have hwB : w.heap.size ≤ B + 1 := by omega
    have U0 := Lib.hid (Upd.ofBelow (show Below w.heap.size w W1 by rw [← hB]; exact kb) g)
    have H1 := Lib.hid (H.out.upd (show Below w.heap.size w W1 by rw [← hB]; exact kb))
    have OW := Lib.hid ow
    have hBg : B ≠ g := by omega
    clear hW hB kb ow
    refine (offset_m g s _ H1.out).mono ?_
    rw [HQ.out]
    rintro e w1 ⟨⟨rfl, k1', u1⟩, o0, o1⟩
    simp only at o0 o1
    obtain ⟨q1, q2, q3, q4, q5, q6, q7, q8, q9⟩ := HR.out
    have cc := k1'.regs
    simp only [q1, q2, q3, q4, q5, q6, q7, q8, q9] at cc
    obtain ⟨c0, c1, c2, c3, c4, c5, c6, c7, c8, c9⟩ := cc
    have cm := keepU u1 cm hBg
    have OW1 := Lib.hid (OW.out.upd u1)
    have K1 := Lib.hid k1'
    have U1 := Lib.hid (U0.out.trans u1)
    clear k1' u1 q1 q2 q3 q4 q5 q6 q7 q8 q9 OW U0
    go_wp2_with fail
  · refine (idle_m g s1 _ K1.out).mono ?_
    rintro e w2 ⟨rfl, k2', u2⟩
    have cc := k2'.regs
    simp only [show (mIdle s1).r = s1.r from rfl] at cc
    obtain ⟨q1, q2, q3, q4, q5, q6, q7, q8, q9⟩ := HR.out
    simp only [q1, q2, q3, q4, q5, q6, q7, q8, q9] at cc
    obtain ⟨c0, c1, c2, c3, c4, c5, c6, c7, c8, c9⟩ := cc
    have OW2 := Lib.hid (OW1.out.upd u2)
    have K2 := Lib.hid k2'
    have U2 := Lib.hid (U1.out.trans u2)
    clear k2' u2 q1 q2 q3 q4 q5 q6 q7 q8 q9 OW1 K1 U1
    go_wp2_with fail
    have dr := direct_rng s.r.d s.r.e (o + s.r.x) d0 d1 (by omega)
    refine (wdirect s.r.a s.r.x s.r.y s.r.s s.r.d _ s.r.b s.r.k s.r.p (o + s.r.x) s.r.e _ d0 d1 (by omega) (by omega)).mono ?_
    rintro e w3 ⟨rfl, hb3⟩
    have OW3 := OW2.out.upd (Upd.ofBelow hb3 g)
    obtain ⟨z0, z1, f0, f1⟩ := OW3.facts
    have K3 := Lib.hid (K2.out.upd hb3)
    have U3 := Lib.hid (U2.out.below hb3)
    clear hb3 OW3 K2 U2
    go_wp2_with fail
    exact bodyPost_ret (v := placeV (directOf s.r.d s.r.e (o + s.r.x)) true) (by simp [results, Try.results22, go_sem, z0, z1]) rfl ⟨rfl, K3.out.put2 hgB _ _, U3.out.put2 hwB _ _⟩
  · refine (idle_m g s1 _ K1.out).mono ?_
    rintro e w2 ⟨rfl, k2', u2⟩
    have cc := k2'.regs
    simp only [show (mIdle s1).r = s1.r from rfl] at cc
    obtain ⟨q1, q2, q3, q4, q5, q6, q7, q8, q9⟩ := HR.out
    simp only [q1, q2, q3, q4, q5, q6, q7, q8, q9] at cc
    obtain ⟨c0, c1, c2, c3, c4, c5, c6, c7, c8, c9⟩ := cc
    have OW2 := Lib.hid (OW1.out.upd u2)
    have K2 := Lib.hid k2'
    have U2 := Lib.hid (U1.out.trans u2)
    clear k2' u2 q1 q2 q3 q4 q5 q6 q7 q8 q9 OW1 K1 U1
    go_wp2_with fail
    have dr := direct_rng s.r.d s.r.e (o + s.r.y) d0 d1 (by omega)
    refine (wdirect s.r.a s.r.x s.r.y s.r.s s.r.d _ s.r.b s.r.k s.r.p (o + s.r.y) s.r.e _ d0 d1 (by omega) (by omega)).mono ?_
    rintro e w3 ⟨rfl, hb3⟩
    have OW3 := OW2.out.upd (Upd.ofBelow hb3 g)
    obtain ⟨z0, z1, f0, f1⟩ := OW3.facts
    have K3 := Lib.hid (K2.out.upd hb3)
    have U3 := Lib.hid (U2.out.below hb3)
    clear hb3 OW3 K2 U2
    go_wp2_with fail
    exact bodyPost_ret (v := placeV (directOf s.r.d s.r.e (o + s.r.y)) true) (by simp [results, Try.results22, go_sem, z0, z1]) rfl ⟨rfl, K3.out.put2 hgB _ _, U3.out.put2 hwB _ _⟩
  · have dr := direct_rng s.r.d s.r.e o d0 d1 (by omega)
    refine (wdirect s.r.a s.r.x s.r.y s.r.s s.r.d _ s.r.b s.r.k s.r.p o s.r.e _ d0 d1 (by omega) (by omega)).mono ?_
    rintro e w3 ⟨rfl, hb3⟩
    have OW3 := OW1.out.upd (Upd.ofBelow hb3 g)
    obtain ⟨z0, z1, f0, f1⟩ := OW3.facts
    have K3 := Lib.hid (K1.out.upd hb3)
    have U3 := Lib.hid (U1.out.below hb3)
    clear hb3 OW3 K1 U1
    go_wp2_with fail
    exact bodyPost_ret (v := placeV (directOf s.r.d s.r.e o) true) (by simp [results, Try.results22, go_sem, z0, z1]) rfl ⟨rfl, K3.out.put2 hgB _ _, U3.out.put2 hwB _ _⟩
end Go.Proofs.Ytmejjejafimhfaa
