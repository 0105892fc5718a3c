/- Two rows of bytes: are they the same? (XBytes has this, too.) -/
import Derived.Test.YtniagcbajjmopaaChecked
import Derived.Test.YtniagcbajjmopaaSaveI
import Derived.ProofKit
namespace Go.Proofs.Ytniagcbajjmopaa
open Go.RowKit
set_option linter.unusedVariables false

/-- Bytes: whether two rows are the same. -/
def Told (W : World) (b : Bool) (e : Ending) (w' : World) : Prop := e = .returned (.bool b) ∧ Below W.heap.size W w'
set_option maxHeartbeats 400000 in
theorem bytes_any (v u : Value) (n m : Nat) (f h : Nat → Int) (w : World) (S : Sees w .u8 v n f) (T : Sees w .u8 u m h) (hn : n ≤ 140737488355328) (hm : m ≤ 140737488355328) :
    Calls Try.prog 18 #[v, u] w (Told w (eqRow n m f h)) := by
  obtain ⟨ao, c, rfl, hs⟩ := S
  obtain ⟨bo, d, rfl, ht⟩ := T
  have Z1 := Lib.hid hs
  have Z2 := Lib.hid ht
  clear hs ht
  by_cases e : n = m
  · subst e
    go_enter Try.func18, Try.ntmps18
    go_wp2
    go_loopw [5] (fun i wr => ∃ k : Nat, k ≤ n ∧ i = .int .i64 k ∧ (∀ j, j < k → f j = h j) ∧ Below w.heap.size w wr) (fun i _ => n - (intOf i).toNat)
    case atStart => exact ⟨0, Nat.zero_le _, rfl, fun j hj => absurd hj (Nat.not_lt_zero _), Below.refl _ _⟩
    case round =>
      obtain ⟨k, hk, rfl, he, hb⟩ := hrel
      have HB := Lib.hid hb
      have HE := Lib.hid he
      clear hb he
      by_cases hlt : k < n
      · obtain ⟨b1, o1, rfl, hc1⟩ := Z1.out.resolve_left (by omega)
        obtain ⟨b2, o2, rfl, hc2⟩ := Z2.out.resolve_left (by omega)
        have hck : wr.cell? ⟨b1, o1 + k, none⟩ = some (.int .u8 (f k)) := by rw [← hc1 k hlt]; exact HB.out.cell (p := ⟨b1, o1 + k, none⟩) (World.block_lt_of_cell? _ _ (hc1 k hlt))
        have hdk : wr.cell? ⟨b2, o2 + k, none⟩ = some (.int .u8 (h k)) := by rw [← hc2 k hlt]; exact HB.out.cell (p := ⟨b2, o2 + k, none⟩) (World.block_lt_of_cell? _ _ (hc2 k hlt))
        clear hc1 hc2
        obtain ⟨x, hx⟩ : ∃ x, f k = x := ⟨_, rfl⟩
        obtain ⟨y, hy⟩ : ∃ y, h k = y := ⟨_, rfl⟩
        rw [hx] at hck
        rw [hy] at hdk
        have HX := Lib.hid hx
        have HY := Lib.hid hy
        clear hx hy
        have q1 : (0 : Int) ≤ ↑k := by omega
        have q2 : (k : Int) ≤ ↑n := by omega
        have q3 : (k : Int) < ↑n := by omega
        by_cases hxy : x = y
        · subst hxy
          go_wp2
          go_quiet (fail)
          go_wp2
          go_roundw
          case rel =>
            have key : ∀ j, j < k + 1 → f j = h j := fun j hj => by
              by_cases e : j = k
              · rw [e, HX.out, HY.out]
              · exact HE.out j (by omega)
            exact ⟨k + 1, by omega, by go_num, key, belowN HB.out _⟩
          case measure => simp [intOf]; omega
        · have hne : (x != y) = true := by simpa using hxy
          have HN := Lib.hid hxy
          clear hxy
          go_wp2
          go_quiet (fail)
          go_wp2
          go_ret
          exact ⟨congrArg (fun b => Ending.returned (.bool b)) (eqRow_at (j := k) hlt (by rw [HX.out, HY.out]; exact HN.out)).symm, belowN HB.out _⟩
      · go_wp2
        go_ret
        exact ⟨congrArg (fun b => Ending.returned (.bool b)) (eqRow_yes (fun j hj => HE.out j (by omega))).symm, HB.out⟩
  · have hne : ((n : Int) != (m : Int)) = true := by simp; omega
    have HN := Lib.hid e
    clear e
    go_enter Try.func18, Try.ntmps18
    go_wp2
    go_ret
    exact ⟨congrArg (fun b => Ending.returned (.bool b)) (eqRow_len HN.out).symm, Below.refl _ _⟩
/-- What is older than a file is none of its. -/
theorem FileAt.old {B : Nat} {l : List Int} {v : Value} {w w' : World} {g g2 : Nat} (h : FileAt B l v w) (hu : ∀ i, i < w.heap.size → i ≠ g → i ≠ g2 → w'.heap[i]? = w.heap[i]?) (hg : g < B) (hg2 : g2 < B) : FileAt B l v w' := by
  obtain ⟨gf, c, e, h1, h2, hc⟩ := h
  refine ⟨gf, c, e, h1, h2, fun j u hj => ?_⟩
  have hlt := World.block_lt_of_cell? _ _ (hc j u hj)
  rw [← hc j u hj]
  exact World.cell?_of_block (hu gf hlt (by omega) (by omega))
/-- One block older than a file, one newer. -/
theorem FileAt.mid {B : Nat} {l : List Int} {v : Value} {w0 w w' : World} {g g2 : Nat} (h : FileAt B l v w0) (hb : Below w0.heap.size w0 w) (hu : ∀ i, i < w.heap.size → i ≠ g2 → i ≠ g → w'.heap[i]? = w.heap[i]?) (hg : g < B) (hg2 : w0.heap.size ≤ g2) : FileAt B l v w' := by
  obtain ⟨gf, c, e, h1, h2, hc⟩ := h
  refine ⟨gf, c, e, h1, h2, fun j u hj => ?_⟩
  have hlt := World.block_lt_of_cell? _ _ (hc j u hj)
  simp only at hlt
  have hcw := keepC hb (hc j u hj)
  rw [← hcw]
  exact World.cell?_of_block (hu gf (World.block_lt_of_cell? _ _ hcw) (by omega) (by omega))
/-- Are two files the same? -/
theorem bytesF_any {w : World} {B C : Nat} {l m : List Int} {v u : Value} (h : FileAt B l v w) (k : FileAt C m u w) (hl : l.length ≤ 1048576) (hm : m.length ≤ 1048576) :
    Calls Try.prog 18 #[v, u] w (Told w (decide (l = m))) := by
  have := bytes_any v u l.length m.length _ _ w h.sees k.sees (by omega) (by omega)
  refine this.mono ?_
  rintro e w' ⟨rfl, hb⟩
  refine ⟨?_, hb⟩
  congr 2
  unfold eqRow
  rw [decide_eq_decide]
  constructor
  · rintro ⟨h1, h2⟩
    apply List.ext_getElem? 
    intro i
    by_cases hi : i < l.length
    · have := h2 i hi
      simp only [List.getD] at this
      rw [List.getElem?_eq_getElem hi, List.getElem?_eq_getElem (by omega)] at this ⊢
      simpa using this
    · rw [List.getElem?_eq_none (by omega), List.getElem?_eq_none (by omega)]
  · rintro rfl
    exact ⟨rfl, fun j _ => rfl⟩
end Go.Proofs.Ytniagcbajjmopaa
