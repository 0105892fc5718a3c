/- slices.SortFunc of a clock's threads; order. -/
import Derived.Test.YtfigepnpegnhkaaClkI
namespace Go.Proofs.Ytfigepnpegnhkaa
open Go.RowKit Go.Shelf Go.Lib
set_option linter.unusedVariables false
set_option linter.unusedSimpArgs false
set_option maxRecDepth 100000
theorem blen (w : World) (n : Nat) (h1 : 1 ≤ n) (hn : n ≤ 16) : Calls Try.prog 42 #[.int .u64 n] w fun e w' => ∃ l : Nat, n ≤ l + 11 ∧ l ≤ 64 ∧ e = .returned (.int .i64 l) ∧ w' = w :=
  (Any.bits_Len (SlLaysF0.n15.bits (P := Try.prog) (ρ := Try.laysSlF06_f38_ren) { Try.laysSlF06_f38 with }) (n : Int) w (by omega) (by omega)).mono fun e w' ⟨h1', h2⟩ => by
    refine ⟨Lib.bitLen (n : Int).toNat, ?_, ?_, h1', h2⟩
    · rw [Int.toNat_natCast]
      have : ∀ k : Fin 17, k.val ≤ Lib.bitLen k.val + 11 := by decide +kernel
      exact this ⟨n, by omega⟩
    · rw [Int.toNat_natCast]
      have : ∀ k : Fin 17, Lib.bitLen k.val ≤ 64 := by decide +kernel
      exact this ⟨n, by omega⟩
theorem own_arr {w : World} {base n : Nat} {E : TypeId} {v : Value} {f : Nat → Int} (h1 : 1 ≤ n) (own : w.ownsRow base E 1 v n (rowN f n)) : ∃ g cp, v = .slice (some ⟨g, 0, none⟩) n cp ∧ base ≤ g ∧ Arr w .i64 E g n f := by
  refine Arr.owned ?_ own
  rintro rfl
  obtain ⟨h1', h2 | ⟨g', cap', cur, e, _⟩⟩ := own
  · obtain ⟨_, h2⟩ := h2; omega
  · cases e
section
variable {w w' : World} {g b cap n bl : Nat} {S T : Nat → Int} {d : Nat → Nat}
set_option maxHeartbeats 2000000 in
theorem sort_any (A : At w g b cap n S T bl d) (h1 : 1 ≤ n) (hn : n ≤ 16) (c : Nat) :
    Calls Try.prog 38 #[.slice (some ⟨bl, 0, none⟩) n c, cmpV g] w (SrtP w g b cap n S T bl d 0 n) := by
  have BL := Lib.hid (blen w n h1 hn)
  have PD := Lib.hid (fun (l : Nat) (h : n ≤ l + 11) (h2 : l ≤ 64) => pdq_any A hn c l h h2)
  clear A
  have wr : IntKind.u64.wrap (n : Int) = n := by rw [IntKind.wrap_u64]; omega
  go_enter Try.func38, Try.ntmps38
  go_wp2_with fail
  refine BL.out.mono ?_
  rintro e w1 ⟨l, hl1, hl2, rfl, rfl⟩
  have PD2 := Lib.hid (PD.out l hl1 hl2)
  clear BL PD
  go_wp2_with fail
  refine PD2.out.mono ?_
  rintro e w2 ⟨rfl, hp⟩
  have HP := Lib.hid hp
  clear hp PD2
  go_wp2_with fail
  go_end0
  exact ⟨rfl, HP.out⟩
/-- What order says. -/
def OrdP (W : World) (n : Nat) (T : Nat → Int) (e : Ending) (w' : World) : Prop :=
  ∃ bl c d, e = .returned (.slice (some ⟨bl, 0, none⟩) n c) ∧ W.heap.size ≤ bl ∧ Ln w' bl n d ∧ Row n d ∧ Sd T 0 n d ∧ Below W.heap.size W w'
theorem infoI : (Try.prog.info? 3).map (fun i => (i.zero, i.size, i.bytes)) = some (some (.int .i64 0), 1, 8) := by kernel_rfl
set_option maxHeartbeats 2000000 in
theorem order_any (C : Ck w g b cap n S T) (h1 : 1 ≤ n) (hn : n ≤ 16) : Calls Try.prog 34 #[.pointer (some ⟨g, 0, none⟩)] w (OrdP w n T) := by
  obtain ⟨i0, hi, hz0, hz1, hz2⟩ := info_parts infoI
  have LE := Lib.hid (len_any C)
  have CK := Lib.hid C
  clear C
  go_enter Try.func34, Try.ntmps34
  go_wp2_with fail
  refine LE.out.mono ?_
  rintro e w1 ⟨rfl, b1⟩
  have B1 := Lib.hid b1
  clear b1 LE
  go_wp2_with fail
  go_loopw [3, 4, 7] (fun s _ i wr => ∃ k : Nat, k ≤ n ∧ i = .int .i64 k ∧ wr.ownsRow w.heap.size 3 1 s k (rowN (fun j => (j : Int)) k) ∧ Below w.heap.size w wr) (fun _ _ i _ => n - (intOf i).toNat)
  case atStart => exact ⟨0, by omega, rfl, ownsRow_nil' _ _ _ _, B1.out⟩
  case round =>
    obtain ⟨k, hk, rfl, own, hb⟩ := hrel
    have HB := Lib.hid hb
    have OWN := Lib.hid own
    by_cases hlt : k < n
    · have hkn : (k : Int) < n := by omega
      have NR := Lib.hid (rowN_succ (fun j => (j : Int)) k)
      have own' := ownsKept own (belowA (Below.refl wr.heap.size wr) (.cells #[.int .i64 k] 3))
      have B2 := Lib.hid (belowA HB.out (.cells #[.int .i64 k] 3))
      clear hb own B1
      go_wp2_with (first
        | (at_builtin; go_must (refine wpList_append_own_at _ rfl _ _ 35 rfl w.heap.size 3 i0 (.int .i64 0) 1 8 Try.underlying35 hi hz0 hz1 hz2 rfl (by decide) _ k _ rfl own' ⟨wr.heap.size, 0, none⟩ 1 1 [.int .i64 k] rfl rfl (cell_one_new _ _ _) (fun x hx => by simp at hx; subst hx; rfl) (by unfold maxLen; omega) (by omega) (by have := HB.out.size; simp; omega) ?_); intro v1 w4 own1 hg1 hnil1 hat1; have ff := own_form own1; obtain ⟨av, cv, rfl⟩ := ff; have ZB := Lib.hid (B2.out.grown hg1 (by have := HB.out.size; simp; omega) (fun j e => own_base2 OWN.out e)); rw [← NR.out] at own1; have OW1 := Lib.hid own1; clear own1 hg1 hnil1 hat1 own'))
      go_roundw
      case rel => exact ⟨k + 1, by omega, by go_num, OW1.out, ZB.out⟩
      case measure => simp [intOf]; omega
    · have hkm : k = n := by omega
      subst hkm
      have hv := own_arr h1 own
      obtain ⟨bl, cp, rfl, hbl, AR⟩ := hv
      have gl : g < w.heap.size := World.block_lt_of_cell? _ _ CK.out.hd
      have bL : b < w.heap.size := CK.out.arr.lt
      have AT : At wr g b cap k S T bl (fun j => j) := ⟨CK.out.kept hb, AR, ⟨fun j hj => hj, fun i j _ _ e => e⟩, by omega, by omega⟩
      have SO := Lib.hid (sort_any AT h1 hn cp)
      have HBL := Lib.hid hbl
      clear AT AR own hb gl bL B1 OWN
      go_wp2_with fail
      refine SO.out.mono ?_
      rintro e w2 ⟨rfl, d, pm, sd, a, u⟩
      have A2 := Lib.hid a
      have SD := Lib.hid sd
      have B3 := Lib.hid (u.out HB.out HBL.out)
      clear pm sd a u SO
      go_wp2_with fail
      go_ret
      exact ⟨bl, cp, d, rfl, HBL.out, A2.out.ln, A2.out.row, SD.out, B3.out⟩
end
end Go.Proofs.Ytfigepnpegnhkaa
