/- A clock's times; the insertion sort of slices.SortFunc at two elements under 'ahead'; order of two. -/
import Derived.Test.YtfigepnpegnhkaaClkC
namespace Go.Proofs.Ytfigepnpegnhkaa
open Go.RowKit
set_option linter.unusedVariables false
set_option linter.unusedSimpArgs false
set_option maxRecDepth 100000
def rowN (f : Nat → Int) (k : Nat) : List Value := (List.range k).map fun j => .int .i64 (f j)
theorem rowN_succ (f : Nat → Int) (k : Nat) : rowN f (k + 1) = rowN f k ++ [.int .i64 (f k)] := by
  unfold rowN; rw [List.range_succ, List.map_append]; rfl
/-- A row of one's own that a call hands back. -/
def Made (W : World) (n : Nat) (f : Nat → Int) (e : Ending) (w' : World) : Prop :=
  ∃ g c, e = .returned (.slice (some ⟨g, 0, none⟩) n c) ∧ W.heap.size ≤ g ∧ Arr w' .i64 2 g n f ∧ Below W.heap.size W w'
theorem clone_any {w : World} {base n : Nat} {v : Value} {f : Nat → Int} (hn : 1 ≤ n) (h16 : n ≤ 1048576) (h : w.ownsRow base 2 1 v n (rowN f n)) : Calls Try.prog 32 #[v] w (Made w n f) := by
  have hv : v ≠ .slice none 0 0 := by
    rintro rfl
    obtain ⟨h1, h2 | ⟨g', cap, cur, e, _⟩⟩ := h
    · obtain ⟨_, h2⟩ := h2; omega
    · cases e
  obtain ⟨g, cap, rfl, _, A⟩ := Arr.owned (k := .i64) (f := f) hv h
  obtain ⟨i0, hi, hz0, hz1, hz2⟩ := info_parts infoI64
  refine (Try.slices_Clone i0 (.int .i64 0) 1 8 hi hz0 hz1 hz2 rfl (by omega) (fun w => by kernel_rfl) g 0 n cap (rowN f n) w (by simp [rowN]) (by unfold maxLen; omega) (by omega) ?_ ?_).mono ?_
  · intro j u hj
    unfold rowN at hj
    rw [List.getElem?_map] at hj
    by_cases h : j < n
    · rw [List.getElem?_range h] at hj
      simp only [Option.map_some, Option.some.injEq] at hj
      subst hj
      rw [Nat.zero_add]
      exact A.cell h
    · rw [List.getElem?_eq_none (by simpa using h)] at hj
      cases hj
  · intro u hu
    unfold rowN at hu
    simp only [List.mem_map] at hu
    obtain ⟨j, _, rfl⟩ := hu
    rfl
  · rintro e w' ⟨v', rfl, own, hne, hb⟩
    obtain ⟨g2, c2, rfl, hg, A2⟩ := Arr.owned (k := .i64) (f := f) hne own
    exact ⟨g2, c2, rfl, hg, A2, hb⟩
section
variable {w : World} {g b cap n : Nat} {S T : Nat → Int}
set_option maxHeartbeats 2000000 in
theorem times_any (C : Ck w g b cap n S T) (h1 : 1 ≤ n) (hn : n ≤ 16) : Calls Try.prog 15 #[.pointer (some ⟨g, 0, none⟩)] w (Made w n T) := by
  obtain ⟨i0, hi, hz0, hz1, hz2⟩ := info_parts infoI64
  have h0 := C.hd
  have CK := Lib.hid C
  clear C
  go_enter Try.func15, Try.ntmps15
  go_wp2_with fail
  go_loopw [3, 5, 13] (fun s _ i wr => ∃ k : Nat, k ≤ n ∧ i = .int .i64 k ∧ wr.ownsRow w.heap.size 2 1 s k (rowN T k) ∧ Below w.heap.size w wr) (fun _ _ i _ => n - (intOf i).toNat)
  case atStart => exact ⟨0, by omega, rfl, ownsRow_nil' _ _ _ _, Below.refl _ _⟩
  case round =>
    obtain ⟨k, hk, rfl, own, hb⟩ := hrel
    have HB := Lib.hid hb
    have OWN := Lib.hid own
    by_cases hlt : k < n
    · have c0 : wr.cell? ⟨b, k * 2, none⟩ = some (.int .i64 (S k)) := (CK.out.kept hb).sc hlt
      have c1 : wr.cell? ⟨b, k * 2 + 1, none⟩ = some (.int .i64 (T k)) := (CK.out.kept hb).tm hlt
      have hkn : (k : Int) < n := by omega
      have NR := Lib.hid (rowN_succ T k)
      obtain ⟨x, hx⟩ : ∃ x, T k = x := ⟨_, rfl⟩
      obtain ⟨y, hy⟩ : ∃ x, S k = x := ⟨_, rfl⟩
      rw [hx] at c1 NR
      rw [hy] at c0
      clear hx hy hb h0
      obtain ⟨o1, ho1⟩ : ∃ o, o = Obj.cells #[.int .i64 y, .int .i64 x] 61 := ⟨_, rfl⟩
      have bw : Below wr.heap.size wr ((wr.alloc (.cells #[.int .i64 y, .int .i64 x] 61)).alloc (.cells #[.int .i64 x] 2)) := belowA (belowA (Below.refl wr.heap.size wr) _) _
      have own' := ownsKept own bw
      have B2 := Lib.hid (HB.out.trans (bw.mono HB.out.size))
      have hnews : ∀ j u, [Value.int .i64 x][j]? = some u → ((wr.alloc (.cells #[.int .i64 y, .int .i64 x] 61)).alloc (.cells #[.int .i64 x] 2)).cell? ((⟨wr.heap.size + 1, 0, none⟩ : Addr).add j) = some u := by
        have := cell_one_new (wr.alloc (.cells #[.int .i64 y, .int .i64 x] 61)) (.int .i64 x) 2
        rw [World.size_alloc] at this
        exact this
      have HN := Lib.hid hnews
      have OW := Lib.hid own
      clear hnews bw o1 ho1 own
      go_wp2_with (first
        | (at_builtin; go_must (refine wpList_append_own_at _ rfl _ _ 22 rfl w.heap.size 2 i0 (.int .i64 0) 1 8 Try.underlying22 hi hz0 hz1 hz2 rfl (by decide) _ k _ rfl own' ⟨wr.heap.size + 1, 0, none⟩ 1 1 [.int .i64 x] rfl rfl HN.out (fun x hx => by simp at hx; subst hx; rfl) (by unfold maxLen; omega) (by omega) (by have := HB.out.size; simp; omega) ?_); intro v1 w4 own1 hg1 hnil1 hat1; have ff := own_form own1; obtain ⟨av, cv, rfl⟩ := ff; have ZB := Lib.hid (B2.out.grown hg1 (by have := HB.out.size; simp; omega) (fun j e => own_base2 OW.out e)); rw [← NR.out] at own1; have OW1 := Lib.hid own1; clear own1 hg1 hnil1 hat1 own'))
      go_roundw
      case rel => exact ⟨k + 1, by omega, by go_num, OW1.out, ZB.out⟩
      case measure => simp [intOf]; omega
    · have hkm : k = n := by omega
      subst hkm
      have CL := Lib.hid (clone_any h1 (by omega) own)
      clear own hb h0
      go_wp2_with fail
      refine CL.out.mono ?_
      rintro e w1 ⟨g1, c1, rfl, hg1, A1, b1⟩
      have := HB.out.size
      have HG := Lib.hid (show w.heap.size ≤ g1 by omega)
      have HA := Lib.hid A1
      have HB1 := Lib.hid (HB.out.trans (b1.mono HB.out.size))
      clear b1 A1 hg1
      go_wp2_with fail
      go_ret
      exact ⟨g1, c1, rfl, HG.out, HA.out, HB1.out⟩
end
end Go.Proofs.Ytfigepnpegnhkaa
