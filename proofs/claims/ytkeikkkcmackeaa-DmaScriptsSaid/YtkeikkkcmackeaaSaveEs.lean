/- save: what a writer does, if nothing went wrong so far. save: Byte, Word, Number: the closures and the methods. -/
import Derived.Test.YtkeikkkcmackeaaSaveGs
import Derived.Defers
import Derived.Recover
import Derived.Test.YtkeikkkcmackeaaTail
import Derived.Shelf.Abstract
namespace Go.Proofs.Ytkeikkkcmackeaa
open Go.RowKit
set_option linter.unusedVariables false
set_option linter.unusedSimpArgs false
set_option maxRecDepth 100000
/-- Nothing was raised: nothing is caught. -/
theorem caught_idle (p : Addr) (w : World) :
    CallsD Try.prog 90 #[.pointer (some p)] .returning w fun e u' w' => e = .returned (.tuple #[]) ∧ u' = .returning ∧ w' = w := by
  refine callsD_of_wpS Try.func90 rfl fun c₀ cs hu => ?_
  apply wpS_seq
  apply wpS_region
  simp [wpOpsS, go_sem, recoverD, hu, Try.ntmps90, Exit.thenS]
  refine wpS_of_wp ?_
  go_wp2_with fail
  cases c₀
  simp_all [bodyPostS, results, Try.results90]
set_option maxHeartbeats 2000000 in
theorem does_any {w : World} {g : Nat} {bv : Value} {bs : List Int} (H : Wr w g bv bs) (F : Nat) (caps : Array Value) (eg : ∀ args w, (callFunc F args).run Try.prog w = .ok (.enter F args) w) {R : World → Prop}
    (hcall : Calls Try.prog F caps w fun e w' => e = .returned (.tuple #[]) ∧ R w') :
    Calls Try.prog 78 #[.pointer (some ⟨g, 0, none⟩), .func (.func F) #[] caps] w fun e w' => e = .returned (.tuple #[]) ∧ R w' := by
  obtain ⟨_, _, _, c18⟩ := H.facts
  have HC := Lib.hid hcall
  clear hcall H
  go_enter_defers Try.func78, Try.ntmps78
  go_wp2_with fail
  refine HC.out.mono ?_
  rintro e w1 ⟨rfl, hr⟩
  have HR := Lib.hid hr
  clear hr HC
  go_wp2_with fail
  refine leaves_cons (f := 90) (args := #[.pointer (some ⟨g, 18, none⟩)]) (by simp) (by simp [go_sem]) ?_
  refine (caught_idle ⟨g, 18, none⟩ _).mono ?_
  rintro e u' w'' ⟨rfl, rfl, rfl⟩
  simp [Leaves, settle, results, Try.results78, go_sem]
  exact HR.out
end Go.Proofs.Ytkeikkkcmackeaa

namespace Go.Proofs.Ytkeikkkcmackeaa
open Go.RowKit Go.Shelf
set_option linter.unusedVariables false
set_option linter.unusedSimpArgs false
set_option maxRecDepth 100000
abbrev wrP' (g : Nat) : Value := .pointer (some ⟨g, 0, none⟩)
/-- A piece that was laid in new memory. -/
def Laid (B : Nat) (l : List Int) (v : Value) (w : World) : Prop := SRow w B v l
def Row1 (B : Nat) (l : List Int) (v : Value) (w : World) : Prop := ∃ b pv, v = .slice (some ⟨b, 0, none⟩) 1 1 ∧ w.cell? ⟨b, 0, none⟩ = some pv ∧ SRow w B pv l
theorem Row1.kept {B : Nat} {l : List Int} {v : Value} {w w' : World} (h : Row1 B l v w) (k : Below w.heap.size w w') : Row1 B l v w' := by
  obtain ⟨b, pv, e, hc, hr⟩ := h
  exact ⟨b, pv, e, keepC k hc, hr.below k⟩
theorem Row1.new {B : Nat} {l : List Int} {pv : Value} {w : World} (h : SRow w B pv l) (t : TypeId) : Row1 B l (.slice (some ⟨w.heap.size, 0, none⟩) 1 1) (w.alloc (.cells #[pv] t)) :=
  ⟨_, pv, rfl, (Blk.new _ _ _).cell 0, h.below (belowA (Below.refl _ _) _)⟩
def pcS (g B : Nat) (x : Value) (l : List Int) : Nat → Value → List Value → World → Prop
  | 0, v, _, _ => v = wrP' g
  | 1, v, _, _ => v = x
  | 2, v, _, w => Laid B l v w
  | 3, v, _, w => Row1 B l v w
  | _, _, _, _ => True
def evSv (w w' : World) : Prop := Below w.heap.size w w'
theorem pcS_mono {g B : Nat} {x : Value} {l : List Int} (i : Nat) (v : Value) (q : List Value) (w w' : World) (h : pcS g B x l i v q w) (k : evSv w w') : pcS g B x l i v q w' := by
  match i, h with
  | 0, h => exact h
  | 1, h => exact h
  | 2, h => exact SRow.below h k
  | 3, h => exact Row1.kept h k
  | i + 4, _ => exact True.intro
def pcN (g B : Nat) (x y : Value) (l : List Int) : Nat → Value → List Value → World → Prop
  | 0, v, _, _ => v = wrP' g
  | 1, v, _, _ => v = x
  | 2, v, _, _ => v = y
  | 3, v, _, w => Laid B l v w
  | 4, v, _, w => Row1 B l v w
  | _, _, _, _ => True
theorem pcN_mono {g B : Nat} {x y : Value} {l : List Int} (i : Nat) (v : Value) (q : List Value) (w w' : World) (h : pcN g B x y l i v q w) (k : evSv w w') : pcN g B x y l i v q w' := by
  match i, h with
  | 0, h => exact h
  | 1, h => exact h
  | 2, h => exact h
  | 3, h => exact SRow.below h k
  | 4, h => exact Row1.kept h k
  | i + 5, _ => exact True.intro
/-- put of one piece. -/
theorem put_one {W w : World} {g : Nat} {bv : Value} {bs l : List Int} (H : Wr W g bv bs) (hb : Below W.heap.size W w) {sv : Value} (h : Row1 W.heap.size l sv w) (n : l ≠ []) (n8 : l.length ≤ 8) (hl : bs.length ≤ 1048576) :
    Calls Try.prog 80 #[wrP' g, sv] w (PutP W g bv (bs ++ l)) := by
  obtain ⟨b, pv, rfl, hc, hr⟩ := h
  have hf : [l].flatten = l := by simp
  have := put_any (H.kept hb) b 1 [pv] [l] rfl (by simp) (fun k q hk => by
      match k, hk with
      | 0, hk => simp at hk; subst hk; exact hc
      | k + 1, hk => simp at hk) (fun k q x hk hx => by
      match k, hk with
      | 0, hk => simp at hk hx; subst hk hx; exact hr.pc n
      | k + 1, hk => simp at hk) (by rw [hf]; exact List.length_pos_iff.mpr n) (by rw [hf]; omega) hl
  rw [hf] at this
  refine this.mono ?_
  rintro e w' ⟨he, bv', h1, h2⟩
  exact ⟨he, bv', h1, (WStep.ofBelow hb g bv).trans h2⟩
theorem PutP.after {w W : World} {g : Nat} {bv : Value} {bs : List Int} (hb : Below w.heap.size w W) {e : Ending} {w' : World} (h : PutP W g bv bs e w') : PutP w g bv bs e w' := by
  obtain ⟨he, bv', h1, h2⟩ := h
  exact ⟨he, bv', h1, (WStep.ofBelow hb g bv).trans h2⟩
end Go.Proofs.Ytkeikkkcmackeaa
