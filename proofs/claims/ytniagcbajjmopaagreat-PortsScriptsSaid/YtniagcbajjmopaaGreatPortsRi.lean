/- ports: the unit and the document's side by side. -/
import Derived.Test.YtniagcbajjmopaaGreatPortsRh
namespace Go.Proofs.YtniagcbajjmopaaGreat
open Go.RowKit
set_option linter.unusedVariables false
set_option linter.unusedSimpArgs false
set_option maxRecDepth 100000
/-- The unit in block g, the document's in B, an event in e. -/
structure Jo (W : World) (B g e : Nat) (ev : Array Value) (s d : Pt) (w : World) : Prop where
  po : Po w g s
  dp : Dp w B d
  o : Blk w e 30 ev
  gB : g ≠ B
  ge : g ≠ e
  be : B ≠ e
  gW : W.heap.size ≤ g
  bW : W.heap.size ≤ B
  eW : W.heap.size ≤ e
  bel : Below W.heap.size W w
section
variable {W w w' : World} {B g e : Nat} {ev : Array Value} {s d s' d' : Pt}
theorem Jo.kept (h : Jo W B g e ev s d w) (k : Below w.heap.size w w') : Jo W B g e ev s d w' := ⟨h.po.kept k, h.dp.kept k, h.o.kept k, h.gB, h.ge, h.be, h.gW, h.bW, h.eW, h.bel.trans (k.mono h.bel.size)⟩
theorem Jo.drew (h : Jo W B g e ev s d w) : Jo W B g e ev s d w.drew := h.kept (belowD (Below.refl _ _))
theorem Jo.prog (h : Jo W B g e ev s d w) (a : Po w' g s') (u : Upd w g w') : Jo W B g e ev s' d w' := ⟨a, u.blk h.dp (fun q => h.gB q.symm), u.blk h.o (fun q => h.ge q.symm), h.gB, h.ge, h.be, h.gW, h.bW, h.eW, u.out h.bel h.gW⟩
theorem Jo.doc (h : Jo W B g e ev s d w) (a : Dp w' B d') (u : Upd w B w') : Jo W B g e ev s d' w' := ⟨u.blk h.po h.gB, a, u.blk h.o (fun q => h.be q.symm), h.gB, h.ge, h.be, h.gW, h.bW, h.eW, u.out h.bel h.bW⟩
theorem Jo.dlike (h : Jo W B g e ev s d w) (l : like d' d) : Jo W B g e ev s d' w := ⟨h.po, h.dp.like l, h.o, h.gB, h.ge, h.be, h.gW, h.bW, h.eW, h.bel⟩
/-- Another unit. -/
theorem Jo.next (h : Jo W B g e ev s d w) {q : Nat} (hq : w.heap.size ≤ q) (a : Po w' q s') (k : Below w.heap.size w w') : Jo W B q e ev s' d w' :=
  ⟨a, h.dp.kept k, h.o.kept k, by have := h.dp.lt; omega, by have := h.o.lt; omega, h.be, Nat.le_trans h.bel.size hq, h.bW, h.eW, h.bel.trans (k.mono h.bel.size)⟩
end
/-- Between the events. -/
structure Jn (W : World) (B g : Nat) (s : Pt) (lf : Int) (w : World) : Prop where
  po : Po w g s
  dp : Dp w B s
  gB : g ≠ B
  gW : W.heap.size ≤ g
  bW : W.heap.size ≤ B
  bel : Below W.heap.size W w
  good : Good s
  l0 : 0 ≤ lf
  now : s.now = 1500000 - lf
theorem Jn.open_ {W w w' : World} {B g : Nat} {s : Pt} {lf : Int} (h : Jn W B g s lf w) (ev : Array Value) (k : Below w.heap.size w w') (hb : Blk w' w.heap.size 30 ev) : Jo W B g w.heap.size ev s s w' :=
  ⟨h.po.kept k, h.dp.kept k, hb, h.gB, by have := h.po.lt; omega, by have := h.dp.lt; omega, h.gW, h.bW, h.bel.size, h.bel.trans (k.mono h.bel.size)⟩
theorem Jo.shut {W w : World} {B g e : Nat} {ev : Array Value} {s : Pt} {lf : Int} (h : Jo W B g e ev s s w) (G : Good s) (l0 : 0 ≤ lf) (hn : s.now = 1500000 - lf) : Jn W B g s lf w := ⟨h.po, h.dp, h.gB, h.gW, h.bW, h.bel, G, l0, hn⟩
/-- What going on does, to both. -/
def AdvC (r : Int) (s d2 : Pt) (T T2 : Int) : Prop := ∀ (W : World) (B g e : Nat) (ev : Array Value),
  (∀ (d : Pt) (w' : World), Jo W B g e ev s d w' → Calls Tryz.prog 14 #[poP g, .int .i64 T] w' (fun e' w'' => e' = .returned (.int .i64 r) ∧ ∃ s', (like s' d2 ∧ Good s' ∧ s'.now = T2) ∧ Jo W B g e ev s' d w'')) ∧
  (∀ (s1 : Pt) (w' : World), Jo W B g e ev s1 s w' → Calls Tryz.prog 15 #[dpP B, .int .i64 T] w' (fun e' w'' => e' = .returned (.int .i64 r) ∧ Jo W B g e ev s1 d2 w''))
theorem adv_both {s : Pt} (G : Good s) (T : Int) (hT : T ≤ 281474976710656) : ∃ (r : Int) (d2 : Pt) (T2 : Int), T2 = (if T < s.now then s.now else T) ∧ AdvC r s d2 T T2 := by
  by_cases h : T < s.now
  · refine ⟨2, s, s.now, by rw [if_pos h], fun W B g e ev => ⟨fun d w' j => ?_, fun s1 w' j => ?_⟩⟩
    · exact (advance_no j.po T (Or.inl h)).mono fun e' w'' ⟨h1, h2⟩ => ⟨h1, s, ⟨like_refl s, G, rfl⟩, j.kept h2⟩
    · exact (dadvance_no j.dp T (Or.inl h)).mono fun e' w'' ⟨h1, h2⟩ => ⟨h1, j.kept h2⟩
  · refine ⟨0, ticks (T - s.now).toNat s, T, by rw [if_neg h], fun W B g e ev => ⟨fun d w' j => ?_, fun s1 w' j => ?_⟩⟩
    · refine (advance_any j.po G.fit.base G.soon T (by omega) hT).mono ?_
      rintro e' w'' ⟨h1, s', a, go, hn, u⟩
      have l := go.like_
      rw [hn] at l
      exact ⟨h1, s', ⟨l, G.going go hn hT, hn⟩, j.prog a u⟩
    · exact (dadvance_any j.dp G.fit.cx G.fit.base.n0 T (by omega) hT).mono fun e' w'' ⟨h1, h2, h3⟩ => ⟨h1, j.doc h2 h3⟩
end Go.Proofs.YtniagcbajjmopaaGreat
