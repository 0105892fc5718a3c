/- awake. -/
import Derived.Test.YtmejjejafimhfaaReachU
namespace Go.Proofs.Ytmejjejafimhfaa
open Go.RowKit
set_option linter.unusedVariables false
set_option linter.unusedSimpArgs false
set_option maxRecDepth 100000

def awR : Rg := ⟨0, 0, 0, 0, 1, 32769, 0, 128, 16, false⟩
theorem aw_is : mReach 5 0 ⟨setR awR, [32], [], false⟩ = ((33, true), ⟨{ awR with pc := 32770 }, [], [(1, 8421377, 0), (0, 0, 0)], false⟩) := by rfl
theorem Sn.one {w : World} {b : Nat} (h : w.cell? ⟨b, 0, none⟩ = some (.int .u8 32)) (hb : b < w.heap.size) : Sn w w.heap.size (.slice (some ⟨b, 0, none⟩) 1 1) [32] := by
  refine ⟨⟨_, _, rfl, by simp, by omega, Or.inr ⟨b, 0, rfl, hb, ?_⟩⟩, by simp⟩
  intro j x hx
  match j with
  | 0 => simp at hx; subst hx; exact h
  | j + 1 => simp at hx

theorem Sn.fresh (w : World) : Sn (w.alloc (.cells #[.int .u8 32] 5)) (w.alloc (.cells #[.int .u8 32] 5)).heap.size (.slice (some ⟨w.heap.size, 0, none⟩) 1 1) [32] :=
  Sn.one ((Blk.new w _ _).cell 0) (Blk.new w _ _).lt
theorem infoU8 : (Try.prog.info? 5).map (fun i => (i.zero, i.size, i.bytes)) = some (some (.int .u8 0), 1, 1) := by kernel_rfl
theorem makeU8 (n : Nat) (hn : n ≤ 140737488355328) (w : World) : (Instr.makeSlice 27 (.int .i64 n) (.int .i64 n)).run Try.prog w = .ok (.slice (some ⟨w.heap.size, 0, none⟩) n n) (w.alloc (.cells (zeros .u8 n) 5)) :=
  make_zeros Try.underlying27 infoU8 n (by omega) hn w
theorem zeros1 : zeros .u8 1 = #[.int .u8 0] := by
  apply Array.ext
  · rw [zeros_size]; rfl
  · intro i h1 h2
    have h3 : i < 1 := h2
    have e := zeros_at .u8 1 i h3
    rw [Array.getElem?_eq_getElem h1] at e
    match i, h3 with
    | 0, _ => exact Option.some.inj e
theorem make1 (w : World) : (Instr.makeSlice 27 (.int .i64 1) (.int .i64 1)).run Try.prog w = .ok (.slice (some ⟨w.heap.size, 0, none⟩) 1 1) (w.alloc (.cells #[.int .u8 0] 5)) := by
  have h := makeU8 1 (by omega) w
  rw [show zeros .u8 1 = #[.int .u8 0] from zeros1] at h
  exact h
theorem aw_end : mEnd ((33, true), ⟨{ awR with pc := 32770 }, [], [(1, 8421377, 0), (0, 0, 0)], false⟩) = ((33, true), 32770, true) := rfl
theorem aw_list (g : Nat) : listV g [(1, 8421377, 0), (0, 0, 0)] = .slice (some ⟨g, 11, none⟩) 2 2 := rfl
theorem Wk.first {w : World} {g : Nat} {r : Rg} {sv : Value} {L : List Acc} {st : Bool} (h : Wk w g r sv L st) (i : Nat) (x : Acc) (hx : L[i]? = some x) : w.cell? ⟨g, 11 + i * 3, none⟩ = some (.int .u8 x.1) ∧ w.cell? ⟨g, 11 + i * 3 + 1, none⟩ = some (.int .u32 x.2.1) ∧ w.cell? ⟨g, 11 + i * 3 + 2, none⟩ = some (.int .u8 x.2.2) := by
  obtain ⟨⟨cs, hb, hs, _, _, _, _, _, _, _, _, _, _, _, _, _, hL⟩, _⟩ := h
  obtain ⟨hi, rfl⟩ := List.getElem?_eq_some_iff.mp hx
  obtain ⟨a, b, c⟩ := hL i hi
  exact ⟨(hb.cell _).trans a, (hb.cell _).trans b, (hb.cell _).trans c⟩

set_option maxHeartbeats 2000000 in
theorem awakeR (w : World) : Calls Try.prog 8 #[] w fun e w' => e = .returned (.bool true) ∧ Below w.heap.size w w' := by
  go_enter Try.func8, Try.ntmps8
  have mk := make1 w
  go_wp2_with fail
  have sn := Sn.fresh w
  have hb : Below w.heap.size w (w.alloc (.cells #[.int .u8 32] 5)) := belowA (Below.refl _ _) _
  have hl := (Blk.new w 5 #[.int .u8 32]).lt
  have ok : awR.ok := ⟨by decide, by decide, by decide, by decide, by decide, by decide, by decide, by decide, by decide, by decide, by decide, by decide, by decide, by decide, by decide, by decide, by decide, by decide⟩
  refine (course_m 0 5 0 0 ⟨#[]⟩ awR _ [32] _ sn ok (by omega)).mono ?_
  rw [aw_is, aw_end]
  simp only [aw_list]
  rintro e w1 ⟨g, rfl, ⟨v, hw⟩, hb1, hg⟩
  have lg := hw.lt
  have gn : g ≠ w1.heap.size := by omega
  obtain ⟨c0, c1, c2⟩ := hw.first 0 (1, 8421377, 0) rfl
  have B1 := Lib.hid (hb.trans (hb1.mono (Nat.le_of_lt hl)))
  clear hw hb1 hb sn mk ok
  simp only [Nat.zero_mul, Nat.add_zero, Nat.reduceAdd] at c0 c1 c2
  go_wp2_with fail
  go_ret
  exact ⟨rfl, by repeat (first | exact B1.out | apply belowA | apply belowD)⟩
end Go.Proofs.Ytmejjejafimhfaa
