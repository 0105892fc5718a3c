/- save: the sum of bytes. -/
import Derived.Test.YtkeikkkcmackeaaSaveA
namespace Go.Proofs.Ytkeikkkcmackeaa
open Go.RowKit
set_option linter.unusedVariables false
set_option linter.unusedSimpArgs false
set_option maxRecDepth 100000
def sumStep (s x : Int) : Int := (s * 31 + x + 7) % 4294967296
def sumOf (l : List Int) : Int := l.foldl sumStep 1
theorem sumStep_rng (s x : Int) : 0 ≤ sumStep s x ∧ sumStep s x ≤ 4294967295 := by unfold sumStep; omega
theorem sumOf_rng (l : List Int) : 0 ≤ sumOf l ∧ sumOf l ≤ 4294967295 := by
  unfold sumOf
  suffices h : ∀ (l : List Int) (s : Int), 0 ≤ s → s ≤ 4294967295 → 0 ≤ l.foldl sumStep s ∧ l.foldl sumStep s ≤ 4294967295 from h l 1 (by omega) (by omega)
  intro l
  induction l with
  | nil => intro s h0 h1; exact ⟨h0, h1⟩
  | cons x l ih => intro s h0 h1; exact ih _ (sumStep_rng s x).1 (sumStep_rng s x).2
theorem sumOf_snoc (l : List Int) (k : Nat) (h : k < l.length) : sumOf (l.take (k + 1)) = sumStep (sumOf (l.take k)) (l.getD k 0) := by
  unfold sumOf
  rw [List.take_succ_eq_append_getElem h, List.foldl_append]
  simp [List.getD, h]
set_option maxHeartbeats 2000000 in
theorem sum_any (v : Value) (bs : List Int) (w : World) (S : Sees w .u8 v bs.length (fun j => bs.getD j 0)) (hb : ∀ b ∈ bs, 0 ≤ b ∧ b ≤ 255) (hn : bs.length ≤ 16777216) :
    Calls Try.prog 62 #[v] w (fun e w' => e = .returned (.int .u32 (sumOf bs)) ∧ w = w') := by
  obtain ⟨ao, c, rfl, hs⟩ := S
  have Z := Lib.hid hs
  have HB := Lib.hid hb
  clear hs hb
  obtain ⟨n, hnn⟩ : ∃ n, bs.length = n := ⟨_, rfl⟩
  have HN := Lib.hid hnn
  rw [hnn] at hn Z ⊢
  clear hnn
  go_enter Try.func62, Try.ntmps62
  go_wp2_with fail
  go_loop [3, 8] (fun s i => ∃ k : Nat, k ≤ n ∧ i = .int .i64 k ∧ s = .int .u32 (sumOf (bs.take k))) (fun _ i => n - (intOf i).toNat)
  case atStart => exact ⟨0, Nat.zero_le _, rfl, rfl⟩
  case round =>
    obtain ⟨k, hk, rfl, rfl⟩ := hrel
    by_cases hlt : k < n
    · obtain ⟨b, off, rfl, hc⟩ := Z.out.resolve_left (by omega)
      have c := hc k hlt
      have hx := HB.out (bs.getD k 0) (by rw [List.getD, List.getElem?_eq_getElem (by rw [HN.out]; exact hlt)]; simp)
      have E := Lib.hid (sumOf_snoc bs k (by rw [HN.out]; exact hlt))
      obtain ⟨x, hx'⟩ : ∃ x, bs.getD k 0 = x := ⟨_, rfl⟩
      rw [hx'] at c hx E
      obtain ⟨x0, x1⟩ := hx
      obtain ⟨s0, s1⟩ := sumOf_rng (bs.take k)
      obtain ⟨s, hs'⟩ : ∃ s, sumOf (bs.take k) = s := ⟨_, rfl⟩
      rw [hs'] at s0 s1 E ⊢
      clear hc hx' hs'
      have q1 : (0 : Int) ≤ ↑k := by omega
      have q2 : (k : Int) < ↑n := by omega
      go_wp2_with fail
      go_round
      case rel => exact ⟨k + 1, by omega, by go_num, by rw [E.out]; unfold sumStep; go_num⟩
      case measure => simp [intOf]; omega
    · have hkn : k = n := by omega
      subst hkn
      have E := Lib.hid (show bs.take k = bs from List.take_of_length_le (by rw [HN.out]; exact Nat.le_refl _))
      rw [E.out]
      go_wp2_with fail
      go_ret
      exact ⟨rfl, rfl⟩
end Go.Proofs.Ytkeikkkcmackeaa
