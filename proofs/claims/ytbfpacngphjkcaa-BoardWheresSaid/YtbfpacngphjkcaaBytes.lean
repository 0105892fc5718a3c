/- Contracts of the statements' own small functions on bytes: CopyBytes, SpoilBytes, Bytes. -/
import Derived.Test.YtbfpacngphjkcaaChecked
import Derived.Test.YtbfpacngphjkcaaArr
import Derived.ProofKit
import Derived.OpenShut
import Derived.SizedLaws
namespace Go.Proofs.Ytbfpacngphjkcaa
open Go.RowKit
set_option linter.unusedVariables false

theorem infoU8 : (Try.prog.info? 5).map (fun i => (i.zero, i.size, i.bytes)) = some (some (.int .u8 0), 1, 1) := by kernel_rfl

def Fresh (W : World) (k : IntKind) (E : TypeId) (n : Nat) (f : Nat → Int) (e : Ending) (w' : World) : Prop :=
  ∃ g, e = .returned (.slice (some ⟨g, 0, none⟩) n n) ∧ W.heap.size ≤ g ∧ Arr w' k E g n f ∧ Below W.heap.size W w'

set_option maxHeartbeats 400000 in
theorem copyBytes_any (v : Value) (n : Nat) (f : Nat → Int) (w : World) (S : Sees w .u8 v n f) (hn : n ≤ 140737488355328) :
    Calls Try.prog 12 #[v] w (Fresh w .u8 5 n f) := by
  obtain ⟨ao, c, rfl, hs⟩ := S
  obtain ⟨i0, hi, hz0, hz1, hz2⟩ := info_parts infoU8
  have Z := Lib.hid hs
  clear hs
  go_enter Try.func12, Try.ntmps12
  go_wp2_with (refine wpList_make_full _ rfl _ _ 24 rfl w.heap.size 5 i0 (.int .u8 0) 1 Try.underlying24 hi hz0 hz1 .i64 .i64 _ _ n rfl rfl rfl rfl (by rw [hz2]; omega) (by unfold maxLen; omega) (Nat.le_refl _) ?_; intro w1 hown hgrow)
  have A0 := Arr.made rfl hown
  have B0 : Below w.heap.size w w1 := (Below.refl _ _).grown hgrow (Nat.le_refl _) (fun _ h => by cases h)
  have G1 : w.heap.size < w1.heap.size := A0.lt
  have A1 := Lib.hid A0
  have B1 := Lib.hid B0
  clear hown hgrow A0 B0
  obtain ⟨g, hg⟩ : ∃ g, w.heap.size = g := ⟨_, rfl⟩
  rw [hg]
  rw [hg] at A1 G1 B1
  go_wp2
  go_loopw [4] (fun i wr => ∃ k : Nat, k ≤ n ∧ i = .int .i64 k ∧ Arr wr .u8 5 g n (fun j => if j < k then f j else 0) ∧ Below w.heap.size w wr) (fun i _ => n - (intOf i).toNat)
  case atStart => exact ⟨0, Nat.zero_le _, rfl, A1.out.congr (fun j _ => by simp), by rw [hg]; exact B1.out⟩
  case round =>
    obtain ⟨k, hk, rfl, ha, hb⟩ := hrel
    have HA := Lib.hid ha
    have HB := Lib.hid hb
    clear ha hb
    by_cases hlt : k < n
    · have h0 : ∃ b off, ao = some ⟨b, off, none⟩ ∧ ∀ j, j < n → w.cell? ⟨b, off + j, none⟩ = some (.int .u8 (f j)) := Z.out.resolve_left (by omega)
      obtain ⟨b, off, rfl, hc⟩ := h0
      have hb0 : b < w.heap.size := World.block_lt_of_cell? _ _ (hc k hlt)
      have hck : wr.cell? ⟨b, off + k, none⟩ = some (.int .u8 (f k)) := by rw [← hc k hlt]; exact HB.out.cell (p := ⟨b, off + k, none⟩) hb0
      have hgk := HA.out.cell hlt
      have hfk := HA.out.frozen k
      have HC := Lib.hid hc
      clear hc
      go_wp2
      go_roundw
      case rel => exact ⟨k + 1, by omega, by go_num, (HA.out.set hlt (f k)).congr (fun j _ => by by_cases e : j = k <;> simp [e] <;> (try split) <;> (try omega) <;> rfl), HB.out.setCell (by rw [hg]; exact Nat.le_refl _) _⟩
      case measure => simp [intOf]; omega
    · go_wp2
      go_ret
      exact ⟨g, rfl, by omega, HA.out.congr (fun j hj => by rw [if_pos (by omega)]), HB.out⟩

/-- What a call that spoils leaves: the row spoilt, all else as it was. -/
def Spoilt (W : World) (g n : Nat) (e : Ending) (w' : World) : Prop := e = .returned (.tuple #[]) ∧ (∃ f' : Nat → Int, Arr w' .u8 5 g n f') ∧ Upd W g w'

set_option maxHeartbeats 400000 in
theorem spoilBytes_any (g n c : Nat) (f : Nat → Int) (w : World) (A : Arr w .u8 5 g n f) (hn : n ≤ 140737488355328) :
    Calls Try.prog 14 #[.slice (some ⟨g, 0, none⟩) n c] w (Spoilt w g n) := by
  have HA := Lib.hid A
  clear A
  go_enter Try.func14, Try.ntmps14
  go_wp2
  go_loopw [2] (fun i wr => ∃ k : Nat, k ≤ n ∧ i = .int .i64 k ∧ (∃ f' : Nat → Int, Arr wr .u8 5 g n f') ∧ Upd w g wr) (fun i _ => n - (intOf i).toNat)
  case atStart => exact ⟨0, Nat.zero_le _, rfl, ⟨f, HA.out⟩, Upd.refl _ _⟩
  case round =>
    obtain ⟨k, hk, rfl, ⟨f', ha⟩, hb⟩ := hrel
    have HB := Lib.hid hb
    have HA' := Lib.hid ha
    clear hb ha HA
    by_cases hlt : k < n
    · have hgk := HA'.out.cell hlt
      have hfk := HA'.out.frozen k
      obtain ⟨x, hx⟩ : ∃ x, f' k = x := ⟨_, rfl⟩
      rw [hx] at hgk
      have HX := Lib.hid hx
      clear hx
      go_wp2
      go_roundw
      case rel => exact ⟨k + 1, by omega, by go_num, ⟨_, HA'.out.set hlt _⟩, HB.out.set _ _⟩
      case measure => simp [intOf]; omega
    · go_wp2
      go_end0
      exact ⟨rfl, ⟨f', HA'.out⟩, HB.out⟩

/-- Bytes: whether two rows are the same. -/
def Told (W : World) (b : Bool) (e : Ending) (w' : World) : Prop := e = .returned (.bool b) ∧ Below W.heap.size W w'
set_option maxHeartbeats 400000 in
theorem bytes_any (v u : Value) (n m : Nat) (f h : Nat → Int) (w : World) (S : Sees w .u8 v n f) (T : Sees w .u8 u m h) (hn : n ≤ 140737488355328) (hm : m ≤ 140737488355328) :
    Calls Try.prog 15 #[v, u] w (Told w (eqRow n m f h)) := by
  obtain ⟨ao, c, rfl, hs⟩ := S
  obtain ⟨bo, d, rfl, ht⟩ := T
  have Z1 := Lib.hid hs
  have Z2 := Lib.hid ht
  clear hs ht
  by_cases e : n = m
  · subst e
    go_enter Try.func15, Try.ntmps15
    go_wp2
    go_loopw [5] (fun i wr => ∃ k : Nat, k ≤ n ∧ i = .int .i64 k ∧ (∀ j, j < k → f j = h j) ∧ Below w.heap.size w wr) (fun i _ => n - (intOf i).toNat)
    case atStart => exact ⟨0, Nat.zero_le _, rfl, fun j hj => absurd hj (Nat.not_lt_zero _), Below.refl _ _⟩
    case round =>
      obtain ⟨k, hk, rfl, he, hb⟩ := hrel
      have HB := Lib.hid hb
      have HE := Lib.hid he
      clear hb he
      by_cases hlt : k < n
      · obtain ⟨b1, o1, rfl, hc1⟩ := Z1.out.resolve_left (by omega)
        obtain ⟨b2, o2, rfl, hc2⟩ := Z2.out.resolve_left (by omega)
        have hck : wr.cell? ⟨b1, o1 + k, none⟩ = some (.int .u8 (f k)) := by rw [← hc1 k hlt]; exact HB.out.cell (p := ⟨b1, o1 + k, none⟩) (World.block_lt_of_cell? _ _ (hc1 k hlt))
        have hdk : wr.cell? ⟨b2, o2 + k, none⟩ = some (.int .u8 (h k)) := by rw [← hc2 k hlt]; exact HB.out.cell (p := ⟨b2, o2 + k, none⟩) (World.block_lt_of_cell? _ _ (hc2 k hlt))
        clear hc1 hc2
        obtain ⟨x, hx⟩ : ∃ x, f k = x := ⟨_, rfl⟩
        obtain ⟨y, hy⟩ : ∃ y, h k = y := ⟨_, rfl⟩
        rw [hx] at hck
        rw [hy] at hdk
        have HX := Lib.hid hx
        have HY := Lib.hid hy
        clear hx hy
        have q1 : (0 : Int) ≤ ↑k := by omega
        have q2 : (k : Int) ≤ ↑n := by omega
        have q3 : (k : Int) < ↑n := by omega
        by_cases hxy : x = y
        · subst hxy
          go_wp2
          go_quiet (fail)
          go_wp2
          go_roundw
          case rel =>
            have key : ∀ j, j < k + 1 → f j = h j := fun j hj => by
              by_cases e : j = k
              · rw [e, HX.out, HY.out]
              · exact HE.out j (by omega)
            exact ⟨k + 1, by omega, by go_num, key, belowN HB.out _⟩
          case measure => simp [intOf]; omega
        · have hne : (x != y) = true := by simpa using hxy
          have HN := Lib.hid hxy
          clear hxy
          go_wp2
          go_quiet (fail)
          go_wp2
          go_ret
          exact ⟨congrArg (fun b => Ending.returned (.bool b)) (eqRow_at (j := k) hlt (by rw [HX.out, HY.out]; exact HN.out)).symm, belowN HB.out _⟩
      · go_wp2
        go_ret
        exact ⟨congrArg (fun b => Ending.returned (.bool b)) (eqRow_yes (fun j hj => HE.out j (by omega))).symm, HB.out⟩
  · have hne : ((n : Int) != (m : Int)) = true := by simp; omega
    have HN := Lib.hid e
    clear e
    go_enter Try.func15, Try.ntmps15
    go_wp2
    go_ret
    exact ⟨congrArg (fun b => Ending.returned (.bool b)) (eqRow_len HN.out).symm, Below.refl _ _⟩

section
open Go.ChangeShapes Go.WideShapes Go.ChangeAt
/-- An argument of bytes: it sees some bytes, and is not too long. -/
theorem openBytes {H : Type} {enc : TypeId × Value → H} {W : World} {base : Nat} {v : Value} {d : DataW H} {p : List MemPlace} (k : Value.okWide Try.prog W .any base 24 v) (h : DataW.Trod enc Try.prog W 0 (fun _ => true) true 24 v d p)
    (hsz : ∀ elems spare, d = .slice elems spare → (elems.length + spare.length) * Try.prog.bytesOf 5 ≤ reachBytes) :
    ∃ n f, Sees W .u8 v n f ∧ n ≤ 140737488355328 ∧ ∀ j, j < n → 0 ≤ f j ∧ f j ≤ 255 := by
  obtain ⟨ao, len, cap, rfl⟩ := okWide_slice Try.underlying24 k
  obtain ⟨fuel, hf⟩ := h
  rcases open_ints Try.underlying24 Try.underlying5 (by kernel_rfl) hf with ⟨hcs, hx⟩ | ⟨a, len', cap', zs, hcs, _, hl, hm, hz, hx, hcell, hwf⟩
  · simp [Value.cells] at hcs
    obtain ⟨rfl, rfl, rfl⟩ := hcs
    exact ⟨0, fun _ => 0, Sees.nil _ _ _ _, by omega, fun j hj => absurd hj (Nat.not_lt_zero _)⟩
  · simp [Value.cells] at hcs
    obtain ⟨rfl, rfl, rfl⟩ := hcs
    simp only [Prod.mk.injEq] at hx
    have hs := hsz _ _ hx.1
    have hb : Try.prog.bytesOf 5 = 1 := by kernel_rfl
    rw [hb] at hs
    simp only [lits, List.length_map, List.length_take, List.length_drop, reachBytes] at hs
    have hlz : len ≤ zs.length := by
      rw [hz]; simp; exact hl
    refine ⟨len, fun j => zs.getD j 0, ⟨some a, cap, rfl, ?_⟩, by omega, fun j hj => ?_⟩
    · rcases Nat.eq_zero_or_pos len with h0 | h0
      · exact Or.inl h0
      · have h1 := hcell 0 (by omega)
        have hspot : a.spot = none := by
          have e : a.add 0 = a := by simp [Addr.add]
          rw [e] at h1
          unfold World.cell? at h1
          split at h1
          · split at h1
            · cases h1
            · rename_i hh; simpa using hh
          · cases h1
        obtain ⟨ab, aoff, asp⟩ := a
        simp only at hspot
        subst hspot
        refine Or.inr ⟨ab, aoff, rfl, fun j hj => ?_⟩
        have := hcell j (by omega)
        have e : (⟨ab, aoff, none⟩ : Addr).add j = ⟨ab, aoff + j, none⟩ := by
          unfold Addr.add
          split
          · subst j; rfl
          · rfl
        rwa [e] at this
    · have hj' : j < zs.length := by omega
      have := hwf (zs.getD j 0) (by simp [List.getD_eq_getElem?_getD, hj'])
      simp [Lit.wf, IntKind.min, IntKind.max, IntKind.signed, IntKind.bits] at this
      exact ⟨by simpa using this.1, by have := this.2; simp at this ⊢; omega⟩
end
end Go.Proofs.Ytbfpacngphjkcaa
