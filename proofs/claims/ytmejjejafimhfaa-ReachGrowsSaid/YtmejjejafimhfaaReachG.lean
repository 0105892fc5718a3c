/- Contracts of the statements' own small functions: copied, same. -/
import Derived.Test.YtmejjejafimhfaaReachV
import Derived.Test.YtmejjejafimhfaaOpen
import Derived.ProofKit
namespace Go.Proofs.Ytmejjejafimhfaa
open Go.RowKit
set_option linter.unusedVariables false
set_option linter.unusedSimpArgs false
set_option maxRecDepth 100000

def Fresh (W : World) (k : IntKind) (E : TypeId) (n : Nat) (f : Nat → Int) (e : Ending) (w' : World) : Prop :=
  ∃ g, e = .returned (.slice (some ⟨g, 0, none⟩) n n) ∧ W.heap.size ≤ g ∧ Arr w' k E g n f ∧ Below W.heap.size W w'
def Told (W : World) (b : Bool) (e : Ending) (w' : World) : Prop := e = .returned (.bool b) ∧ Below W.heap.size W w'

set_option maxHeartbeats 400000 in
theorem copied_any (v : Value) (n : Nat) (f : Nat → Int) (w : World) (S : Sees w .u8 v n f) (hn : n ≤ 140737488355328) :
    Calls Try.prog 6 #[v] w (Fresh w .u8 5 n f) := by
  obtain ⟨ao, c, rfl, hs⟩ := S
  obtain ⟨i0, hi, hz0, hz1, hz2⟩ := info_parts infoU8
  have Z := Lib.hid hs
  clear hs
  go_enter Try.func6, Try.ntmps6
  go_wp2_with (refine wpList_make_full _ rfl _ _ 27 rfl w.heap.size 5 i0 (.int .u8 0) 1 Try.underlying27 hi hz0 hz1 .i64 .i64 _ _ n rfl rfl rfl rfl (by rw [hz2]; omega) (by unfold maxLen; omega) (Nat.le_refl _) ?_; intro w1 hown hgrow)
  have A0 := Arr.made rfl hown
  have B0 : Below w.heap.size w w1 := (Below.refl _ _).grown hgrow (Nat.le_refl _) (fun _ h => by cases h)
  have G1 : w.heap.size < w1.heap.size := A0.lt
  have A1 := Lib.hid A0
  have B1 := Lib.hid B0
  clear hown hgrow A0 B0
  obtain ⟨g, hg⟩ : ∃ g, w.heap.size = g := ⟨_, rfl⟩
  rw [hg]
  rw [hg] at A1 G1 B1
  go_wp2
  go_loopw [4] (fun i wr => ∃ k : Nat, k ≤ n ∧ i = .int .i64 k ∧ Arr wr .u8 5 g n (fun j => if j < k then f j else 0) ∧ Below w.heap.size w wr) (fun i _ => n - (intOf i).toNat)
  case atStart => exact ⟨0, Nat.zero_le _, rfl, A1.out.congr (fun j _ => by simp), by rw [hg]; exact B1.out⟩
  case round =>
    obtain ⟨k, hk, rfl, ha, hb⟩ := hrel
    have HA := Lib.hid ha
    have HB := Lib.hid hb
    clear ha hb
    by_cases hlt : k < n
    · have h0 : ∃ b off, ao = some ⟨b, off, none⟩ ∧ ∀ j, j < n → w.cell? ⟨b, off + j, none⟩ = some (.int .u8 (f j)) := Z.out.resolve_left (by omega)
      obtain ⟨b, off, rfl, hc⟩ := h0
      have hb0 : b < w.heap.size := World.block_lt_of_cell? _ _ (hc k hlt)
      have hck : wr.cell? ⟨b, off + k, none⟩ = some (.int .u8 (f k)) := by rw [← hc k hlt]; exact HB.out.cell (p := ⟨b, off + k, none⟩) hb0
      have hgk := HA.out.cell hlt
      have hfk := HA.out.frozen k
      have HC := Lib.hid hc
      clear hc
      go_wp2
      go_roundw
      case rel => exact ⟨k + 1, by omega, by go_num, (HA.out.set hlt (f k)).congr (fun j _ => by by_cases e : j = k <;> simp [e] <;> (try split) <;> (try omega) <;> rfl), HB.out.setCell (by rw [hg]; exact Nat.le_refl _) _⟩
      case measure => simp [intOf]; omega
    · go_wp2
      go_ret
      exact ⟨g, rfl, by omega, HA.out.congr (fun j hj => by rw [if_pos (by omega)]), HB.out⟩

/-- A slice of accesses. -/
def AccS (w : World) (v : Value) (L : List Acc) : Prop :=
  ∃ ao c, v = .slice ao L.length c ∧ L.length ≤ c ∧ c ≤ 12 ∧ (L = [] ∧ ao = none ∨ ∃ b off, ao = some ⟨b, off, none⟩ ∧ ∀ i x, L[i]? = some x → w.cell? ⟨b, off + i * 3, none⟩ = some (.int .u8 x.1) ∧ w.cell? ⟨b, off + i * 3 + 1, none⟩ = some (.int .u32 x.2.1) ∧ w.cell? ⟨b, off + i * 3 + 2, none⟩ = some (.int .u8 x.2.2))
section
variable {w w' : World} {v : Value} {L : List Acc}
theorem AccS.kept (h : AccS w v L) (hb : Below w.heap.size w w') : AccS w' v L := by
  obtain ⟨ao, c, e, l1, l2, h⟩ := h
  refine ⟨ao, c, e, l1, l2, h.imp id fun ⟨b, off, ea, h⟩ => ⟨b, off, ea, fun i x hx => ?_⟩⟩
  obtain ⟨a, b, c⟩ := h i x hx
  exact ⟨keepC hb a, keepC hb b, keepC hb c⟩
theorem AccS.nil (w : World) : AccS w (.slice none 0 0) [] := ⟨_, _, rfl, by simp, by omega, Or.inl ⟨rfl, rfl⟩⟩
theorem AccS.ofWk {g : Nat} {r : Rg} {sv : Value} {st : Bool} (h : Wk w g r sv L st) : AccS w (listV g L) L := by
  have hl := h.len
  unfold listV
  by_cases e : L.length = 0
  · rw [if_pos e]
    have : L = [] := List.length_eq_zero_iff.mp e
    subst this
    exact AccS.nil w
  · rw [if_neg e]
    exact ⟨_, _, rfl, by omega, by omega, Or.inr ⟨g, 11, rfl, fun i x hx => h.first i x hx⟩⟩
end

set_option maxHeartbeats 1000000 in
theorem same_yes (v u : Value) (L : List Acc) (w : World) (A : AccS w v L) (B : AccS w u L) :
    Calls Try.prog 7 #[v, u] w (Told w true) := by
  obtain ⟨ao, c, rfl, lc, l12, hs⟩ := A
  obtain ⟨bo, d, rfl, ld, l13, ht⟩ := B
  have Z1 := Lib.hid hs
  have Z2 := Lib.hid ht
  clear hs ht
  obtain ⟨n, hn⟩ : ∃ n, L.length = n := ⟨_, rfl⟩
  rw [hn] at lc ld ⊢
  have HN := Lib.hid hn
  clear hn
  go_enter Try.func7, Try.ntmps7
  go_wp2
  go_loopw [5] (fun i wr => ∃ k : Nat, k ≤ n ∧ i = .int .i64 k ∧ Below w.heap.size w wr) (fun i _ => n - (intOf i).toNat)
  case atStart => exact ⟨0, Nat.zero_le _, rfl, Below.refl _ _⟩
  case round =>
    obtain ⟨k, hk, rfl, hb⟩ := hrel
    have HB := Lib.hid hb
    clear hb
    by_cases hlt : k < n
    · have hne : ¬ L = [] := by rintro rfl; have := HN.out; simp at this; omega
      obtain ⟨b1, o1, rfl, hc1⟩ := Z1.out.resolve_left (fun h => hne h.1)
      obtain ⟨b2, o2, rfl, hc2⟩ := Z2.out.resolve_left (fun h => hne h.1)
      have hx : L[k]? = some (L[k]'(by rw [HN.out]; exact hlt)) := by simp
      obtain ⟨p0, p1, p2⟩ := hc1 k _ hx
      obtain ⟨q0, q1, q2⟩ := hc2 k _ hx
      have p0 := keepC HB.out p0
      have p1 := keepC HB.out p1
      have p2 := keepC HB.out p2
      have q0 := keepC HB.out q0
      have q1 := keepC HB.out q1
      have q2 := keepC HB.out q2
      obtain ⟨x0, e0⟩ : ∃ x0, (L[k]'(by rw [HN.out]; exact hlt)).1 = x0 := ⟨_, rfl⟩
      obtain ⟨x1, e1⟩ : ∃ x0, (L[k]'(by rw [HN.out]; exact hlt)).2.1 = x0 := ⟨_, rfl⟩
      obtain ⟨x2, e2⟩ : ∃ x0, (L[k]'(by rw [HN.out]; exact hlt)).2.2 = x0 := ⟨_, rfl⟩
      rw [e0] at p0 q0
      rw [e1] at p1 q1
      rw [e2] at p2 q2
      clear hc1 hc2 hx e0 e1 e2 hne
      have r1 : (0 : Int) ≤ ↑k := by omega
      have r2 : (k : Int) ≤ ↑n := by omega
      have r3 : (k : Int) < ↑n := by omega
      go_wp2
      go_quiet (fail)
      go_wp2
      go_roundw
      case rel => exact ⟨k + 1, by omega, by go_num, belowN HB.out _⟩
      case measure => simp [intOf]; omega
    · go_wp2
      go_ret
      exact ⟨rfl, HB.out⟩

section
open Go.ChangeShapes Go.WideShapes Go.ChangeAt
variable {H : Type} {enc : TypeId × Value → H} {P : Program} {W : World} {base : Nat} {v : Value} {d : DataW H} {p : List MemPlace}
/-- A slice of numbers, with its room. -/
theorem openRoom {T E : TypeId} {k : IntKind} {B : Nat} (hT : P.underlying T = some (.slice E)) (hE : P.underlying E = some (.int k)) (hc : P.cellsOf E = 1) (hB : P.bytesOf E = B)
    (hk : Value.okWide P W .any base T v) (h : DataW.Trod enc P W 0 (fun _ => true) true T v d p)
    (hsz : ∀ elems spare, d = .slice elems spare → (elems.length + spare.length) * P.bytesOf E ≤ reachBytes) :
    ∃ n f, Sees W k v n f ∧ (∃ ao c, v = .slice ao n c ∧ n ≤ c ∧ c ≤ 9223372036854775807) ∧ n * B ≤ 140737488351232 ∧ n ≤ 9223372036854775807 ∧ ∀ j, j < n → (Lit.int k (f j)).wf = true := by
  obtain ⟨n, f, S, h2, h3, h4⟩ := openRow hT hE hc hB hk h hsz
  refine ⟨n, f, S, ?_, h2, h3, h4⟩
  obtain ⟨ao, c, rfl, _⟩ := S
  obtain ⟨fuel, hf⟩ := h
  rcases open_ints hT hE hc hf with ⟨hcs, hx⟩ | ⟨a, len', cap', zs, hcs, _, hl, hm, hz, hx, hcell, hwf⟩
  · simp [Value.cells] at hcs
    obtain ⟨rfl, rfl, rfl⟩ := hcs
    exact ⟨_, _, rfl, by omega, by omega⟩
  · simp [Value.cells] at hcs
    obtain ⟨rfl, rfl, rfl⟩ := hcs
    unfold maxLen at hm
    exact ⟨_, _, rfl, by omega, by omega⟩
end
end Go.Proofs.Ytmejjejafimhfaa
