/- save: rows of bytes of the call's own; a number's bytes, the lowest one first. -/
import Derived.Test.YtkeikkkcmackeaaChecked
import Derived.Test.YtkeikkkcmackeaaArr
import Derived.Test.YtkeikkkcmackeaaKeep
import Derived.OwnWalk
import Derived.Maps.AppendAt
import Derived.Deep.DeepCutAuto
import Derived.WalkKit
namespace Go.Proofs.Ytkeikkkcmackeaa
open Go.RowKit
set_option linter.unusedVariables false
set_option linter.unusedSimpArgs false

/-- A number's n lowest bytes, the lowest one first. -/
def le : Nat → Int → List Int
  | 0, _ => []
  | n + 1, x => x % 256 :: le n (x / 256)
theorem le_len (n : Nat) (x : Int) : (le n x).length = n := by
  induction n generalizing x with
  | zero => rfl
  | succ n ih => simp [le, ih]
theorem le_byte (n : Nat) (x : Int) : ∀ b ∈ le n x, 0 ≤ b ∧ b ≤ 255 := by
  induction n generalizing x with
  | zero => intro b h; cases h
  | succ n ih =>
    intro b h
    rcases List.mem_cons.mp h with rfl | h
    · omega
    · exact ih _ b h
theorem le_next {n k : Nat} {y v : Int} {done : List Int} (hk : k < n) (h : done ++ le (n - k) y = le n v) : (done ++ [y % 256]) ++ le (n - (k + 1)) (y / 256) = le n v := by
  rw [← h, List.append_assoc]
  obtain ⟨m, hm⟩ : ∃ m, n - k = m + 1 := ⟨n - k - 1, by omega⟩
  rw [hm, show n - (k + 1) = m by omega]
  rfl

/-- A row of bytes of the call's own. -/
def SRow (w : World) (base : Nat) (v : Value) (bs : List Int) : Prop := w.ownsRow base 5 1 v bs.length (bs.map (Value.int .u8))
section
variable {w w' : World} {base : Nat} {v : Value} {bs : List Int}
theorem SRow.nil (w : World) (base : Nat) : SRow w base (.slice none 0 0) [] := World.ownsRow_nil _ _ _ _
theorem SRow.lt (h : SRow w base v bs) {g : Nat} (hg : v.ownBlock = some g) : g < w.heap.size := by
  rcases h.2 with ⟨rfl, _⟩ | ⟨g', cap, cur, rfl, hb, hh, _⟩
  · cases hg
  · cases hg
    exact (Array.getElem?_eq_some_iff.mp hh).1
theorem SRow.from_ (h : SRow w base v bs) {g : Nat} (hg : v.ownBlock = some g) : base ≤ g := by
  rcases h.2 with ⟨rfl, _⟩ | ⟨g', cap, cur, rfl, hb, hh, _⟩
  · cases hg
  · cases hg
    exact hb
theorem SRow.weak (h : SRow w base v bs) {b : Nat} (hb : b ≤ base) : SRow w b v bs := by
  refine ⟨h.1, h.2.imp id ?_⟩
  rintro ⟨g, cap, cur, rfl, hbb, q⟩
  exact ⟨g, cap, cur, rfl, Nat.le_trans hb hbb, q⟩
theorem SRow.same (h : SRow w base v bs) (k : ∀ g, v.ownBlock = some g → w'.heap[g]? = w.heap[g]?) : SRow w' base v bs := by
  refine ⟨h.1, h.2.imp id ?_⟩
  rintro ⟨g, cap, cur, rfl, hb, hh, q⟩
  exact ⟨g, cap, cur, rfl, hb, (k g rfl).trans hh, q⟩
theorem SRow.below (h : SRow w base v bs) (hb : Below w.heap.size w w') : SRow w' base v bs := h.same fun g hg => hb.block g (h.lt hg)
theorem SRow.upd (h : SRow w base v bs) {g : Nat} (hu : Upd w g w') (hg : g < base) : SRow w' base v bs := h.same fun k hk => hu.block k (h.lt hk) (by have := h.from_ hk; omega)
theorem SRow.grown (h : SRow w base v bs) {row : Option Nat} (hg : w.grownBy w' row) (hr : ∀ g, v.ownBlock = some g → row ≠ some g) : SRow w' base v bs := h.same fun k hk => hg.block k (h.lt hk) (fun e => hr k hk e.symm)
theorem SRow.one (h : SRow w base v bs) : v.oneCell' = true := by
  rcases h.2 with ⟨rfl, _⟩ | ⟨g, cap, cur, rfl, hb, _⟩ <;> rfl
theorem SRow.slice (h : SRow w base v bs) : ∃ ao c, v = .slice ao bs.length c := by
  rcases h.2 with ⟨rfl, e⟩ | ⟨g, cap, cur, rfl, hb, _⟩
  · exact ⟨none, 0, by rw [e]⟩
  · exact ⟨_, cap, rfl⟩
theorem SRow.at (h : SRow w base v bs) (n : bs ≠ []) : ∃ g c, v = .slice (some ⟨g, 0, none⟩) bs.length c ∧ base ≤ g ∧ ∀ j u, bs[j]? = some u → w.cell? ⟨g, j, none⟩ = some (.int .u8 u) := by
  rcases h.2 with ⟨rfl, e⟩ | ⟨g, cap, cur, rfl, hb, _⟩
  · exact absurd (List.length_eq_zero_iff.mp e) n
  · refine ⟨g, cap, rfl, hb, fun j u hj => ?_⟩
    have := World.ownsRow.cells (g := g) h rfl j (.int .u8 u) (by simp [hj])
    have e : (⟨g, 0, none⟩ : Addr).add j = ⟨g, j, none⟩ := by by_cases j0 : j = 0 <;> simp [Addr.add, j0]
    rwa [e] at this
theorem SRow.at2 (h : SRow w base v bs) (n : bs ≠ []) : ∃ g c, v = .slice (some ⟨g, 0, none⟩) bs.length c ∧ base ≤ g ∧ bs.length ≤ c ∧ ∀ j u, bs[j]? = some u → w.cell? ⟨g, j, none⟩ = some (.int .u8 u) := by
  obtain ⟨g, c, rfl, hb, hc⟩ := h.at n
  rcases h.2 with ⟨e, _⟩ | ⟨g', cap, cur, e, _, _, hn, _⟩
  · cases e
  · cases e
    exact ⟨g, c, rfl, hb, hn, hc⟩
theorem SRow.push {x : Int} (h : w'.ownsRow base 5 1 v (bs.length + 1) (bs.map (Value.int .u8) ++ [.int .u8 x])) : SRow w' base v (bs ++ [x]) := by
  unfold SRow; simpa using h
theorem SRow.more {xs : List Int} (h : w'.ownsRow base 5 1 v (bs.length + xs.length) (bs.map (Value.int .u8) ++ xs.map (Value.int .u8))) : SRow w' base v (bs ++ xs) := by
  unfold SRow; simpa using h
theorem SRow.sees (h : SRow w base v bs) : Sees w .u8 v bs.length (fun j => bs.getD j 0) := by
  by_cases n : bs = []
  · subst n
    obtain ⟨ao, c, rfl⟩ := h.slice
    exact ⟨ao, c, rfl, Or.inl rfl⟩
  · obtain ⟨g, c, rfl, _, hc⟩ := h.at n
    refine ⟨_, _, rfl, Or.inr ⟨g, 0, rfl, fun j hj => ?_⟩⟩
    rw [Nat.zero_add]
    have := hc j bs[j] (by simp [hj])
    rw [this]
    simp [List.getD, hj]
end
theorem own_base' {w : World} {base : Nat} {e : TypeId} {v : Value} {n : Nat} {xs : List Value} (h : w.ownsRow base e 1 v n xs) {g : Nat} (hg : v.ownBlock = some g) : base ≤ g := by
  rcases h.2 with ⟨rfl, _⟩ | ⟨g', cap, cur, rfl, hb, hh, _⟩
  · cases hg
  · cases hg
    exact hb
theorem saU8 : (Try.prog.info? 5).map (fun i => (i.zero, i.size, i.bytes)) = some (some (.int .u8 0), 1, 1) := by kernel_rfl
end Go.Proofs.Ytkeikkkcmackeaa
