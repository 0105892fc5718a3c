/- save: bytes as a number: slices.Backward, gone through. -/
import Derived.Test.YtkeikkkcmackeaaSaveA
import Derived.Test.YtkeikkkcmackeaaSeq
import Derived.Laws.BitsAllLaws
namespace Go.Proofs.Ytkeikkkcmackeaa
open Go Go.RowKit Go.Shelf
attribute [local go_sem] Oper.semAt_some
set_option linter.unusedVariables false
set_option linter.unusedSimpArgs false
set_option maxRecDepth 100000
/-- What bytes say, the lowest one first. -/
def num : List Int → Int
  | [] => 0
  | b :: l => b + 256 * num l
def Byts (l : List Int) : Prop := ∀ b ∈ l, 0 ≤ b ∧ b ≤ 255
theorem num_rng : ∀ (l : List Int), Byts l → 0 ≤ num l ∧ num l < 256 ^ l.length
  | [], _ => by simp [num]
  | b :: l, h => by
    have h1 := h b (by simp)
    have h2 := num_rng l (fun x hx => h x (by simp [hx]))
    simp only [num, List.length_cons, Int.pow_succ]
    generalize (256 : Int) ^ l.length = p at h2 ⊢
    omega
theorem num_le (n : Nat) (x : Int) (h0 : 0 ≤ x) (h1 : x < 256 ^ n) : num (le n x) = x := by
  induction n generalizing x with
  | zero => simp at h1; simp [le, num]; omega
  | succ n ih =>
    simp only [le, num]
    rw [ih (x / 256) (by omega) (by
      rw [Int.pow_succ] at h1
      generalize (256 : Int) ^ n = p at h1 ⊢
      omega)]
    omega
theorem num_drop (l : List Int) (i : Nat) (h : i < l.length) : num (l.drop i) = l.getD i 0 + 256 * num (l.drop (i + 1)) := by
  rw [List.drop_eq_getElem_cons h]
  simp [num, List.getD, h]
theorem or8 (x c : Int) (x0 : 0 ≤ x) (x1 : x < 72057594037927936) (c0 : 0 ≤ c) (c1 : c ≤ 255) : bits .or .u64 (x * 256) c = c + 256 * x := by
  have h := u64_or_nat (x.toNat * 256) c.toNat (by omega) (by omega)
  rw [show ((x.toNat * 256 : Nat) : Int) = x * 256 by omega, Int.toNat_of_nonneg c0] at h
  rw [h]
  have e : x.toNat * 256 ||| c.toNat = x.toNat * 256 + c.toNat := by
    have := Nat.shiftLeft_add_eq_or_of_lt (i := 8) (b := c.toNat) (by omega) x.toNat
    rw [Nat.shiftLeft_eq] at this
    exact this.symm
  rw [e]; omega
theorem backward_any (ao : Option Addr) (n c : Nat) (w : World) : Calls Try.prog 83 #[.slice ao n c] w fun e w' =>
    e = .returned (.func (.func 91) #[] #[.pointer (some ⟨w.heap.size, 0, none⟩)]) ∧ w' = w.alloc (.cells #[.slice ao n c] 40) := by
  go_enter Try.func83, Try.ntmps83
  go_wp2_with fail
  go_ret
  exact ⟨rfl, rfl⟩
set_option maxHeartbeats 4000000 in
theorem backward_in (w0 : World) (Bx g off c n : Nat) (l : List Int) (hx : w0.cell? ⟨Bx, 0, none⟩ = some (.slice (some ⟨g, off, none⟩) n c)) (hl : l.length = n) (hn : n ≤ 1048576) (hc : ∀ j u, l[j]? = some u → w0.cell? ⟨g, off + j, none⟩ = some (.int .u8 u))
    (n0 B : Nat) (hg : g < n0) (hB : B ≤ Bx) :
    SeqB Try.prog 91 #[.pointer (some ⟨Bx, 0, none⟩)] (fun i : Nat => #[.int .i64 i, .int .u8 (l.getD i 0)]) n0 B (fun pre i => i + 1 + pre.length = n) (fun xs => xs.length = n) (fun _ => True) w0 := by
  intro lp J Jx W hW hn0 hB0 hJ hJx hY h0
  have XW := Lib.hid (keepC hW hx)
  have CW : Hid (∀ j u, l[j]? = some u → W.cell? ⟨g, off + j, none⟩ = some (.int .u8 u)) := Lib.hid (fun j u hj => keepC hW (hc j u hj))
  have HY := Lib.hid hY
  have HJ := Lib.hid hJ
  have H0 := Lib.hid h0
  have HL := Lib.hid hl
  clear hx hc hY hJ hJx h0 hW hl
  refine callsIn_of_wp Try.func91 rfl trivial ?_ rfl
  simp only [Try.ntmps91, List.size_toArray, List.length_cons, List.length_nil, Nat.reduceAdd, Nat.reduceSub, Array.replicate_succ, Array.replicate_zero, List.push_toArray, List.append_toArray, List.nil_append, List.cons_append]
  have x0 := XW.out
  gi_wp2
  gi_loopw [3] (fun i wr => ∃ pre : List Nat, pre.length ≤ n ∧ i = .int .i64 ((n : Int) - 1 - pre.length) ∧ J pre wr ∧ (∀ j u, l[j]? = some u → wr.cell? ⟨g, off + j, none⟩ = some (.int .u8 u)) ∧ wr.cell? ⟨Bx, 0, none⟩ = some (.slice (some ⟨g, off, none⟩) n c) ∧ W.heap.size ≤ wr.heap.size)
    (fun i _ => (intOf i + 1).toNat)
  case atStart => exact ⟨[], by simp, by simp, H0.out, CW.out, XW.out, Nat.le_refl _⟩
  case round =>
    obtain ⟨pre, hp, rfl, hj, hcs, hbx, hsz⟩ := hrel
    have J1 := Lib.hid hj
    have CS := Lib.hid hcs
    obtain ⟨k, hk⟩ : ∃ k, pre.length = k := ⟨_, rfl⟩
    have HK := Lib.hid hk
    rw [hk] at hp ⊢
    clear hj hcs hk
    by_cases hkl : k < n
    · obtain ⟨i, hi⟩ : ∃ i : Nat, (n : Int) - 1 - k = i := ⟨n - 1 - k, by omega⟩
      have hil : i < n := by omega
      have ci := CS.out i (l.getD i 0) (by rw [List.getD, List.getElem?_eq_getElem (by rw [HL.out]; exact hil)]; simp)
      obtain ⟨fn, tmps, assign, body, hy, hR⟩ := HY.out pre i wr J1.out (by rw [HK.out]; omega) hsz
      obtain ⟨u, hu⟩ : ∃ u, l.getD i 0 = u := ⟨_, rfl⟩
      rw [hu] at ci hy
      rw [hi]
      have HU := Lib.hid hu
      have HI := Lib.hid hi
      have hi0 : (0 : Int) ≤ i := by omega
      have hi1 : (i : Int) < n := by omega
      clear hu hi
      gi_wp2
      refine ⟨rfl, ?_⟩
      refine hR.mono ?_
      rintro e w4 (⟨rfl, hj4, hk4⟩ | ⟨rfl, hj4, hk4⟩)
      · have J4 := Lib.hid hj4
        have CS4 : Hid (∀ j u, l[j]? = some u → w4.cell? ⟨g, off + j, none⟩ = some (.int .u8 u)) := Lib.hid (fun j u hj => by rw [← CS.out j u hj]; exact hk4.bel.cell (p := ⟨g, off + j, none⟩) hg)
        have x4 : w4.cell? ⟨Bx, 0, none⟩ = some (.slice (some ⟨g, off, none⟩) n c) := by
          rw [← hbx]
          exact World.cell?_of_block (hk4.from_ _ hB (World.block_lt_of_cell? _ _ hbx))
        have sz4 := Nat.le_trans hsz hk4.size
        clear hj4 hk4 hR
        gi_wp2
        go_roundw
        case rel => exact ⟨pre ++ [i], by rw [List.length_append, HK.out]; simp <;> omega, by rw [List.length_append, HK.out]; simp; have := HI.out; go_num, J4.out, CS4.out, x4, sz4⟩
        case measure => simp [intOf] <;> omega
      · have J4 := Lib.hid hj4
        clear hj4 hk4 hR
        gi_wp2
        refine bodyPost_ret (results_none rfl _ _ _) rfl ?_
        exact ⟨⟨_, rfl⟩, .inr ⟨pre ++ [i], trivial, J4.out⟩⟩
    · have hke : k = n := by omega
      subst hke
      have e1 : (k : Int) - 1 - k = -1 := by omega
      rw [e1]
      gi_wp2
      go_end0
      exact ⟨⟨_, rfl⟩, .inl ⟨pre, HK.out, J1.out⟩⟩
end Go.Proofs.Ytkeikkkcmackeaa
