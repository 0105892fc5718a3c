/- dma: Save, saved. -/
import Derived.Test.YtkeikkkcmackeaaDmaS
import Derived.Test.YtkeikkkcmackeaaSaveI
import Derived.Test.YtkeikkkcmackeaaSaveFs
namespace Go.Proofs.Ytkeikkkcmackeaa
open Go.RowKit
set_option linter.unusedVariables false
set_option linter.unusedSimpArgs false
set_option maxRecDepth 100000
/-- Bytes of a row. -/
def rowF (f : Nat → Int) (o n : Nat) : List Int := (List.range n).map fun i => f (o + i)
theorem rowF_len (f : Nat → Int) (o n : Nat) : (rowF f o n).length = n := by simp [rowF]
theorem rowF_snoc (f : Nat → Int) (o n : Nat) : rowF f o (n + 1) = rowF f o n ++ [f (o + n)] := by simp [rowF, List.range_succ]
theorem rowF_at (f : Nat → Int) (o n j : Nat) (u : Int) (h : (rowF f o n)[j]? = some u) : j < n ∧ u = f (o + j) := by
  have hj : j < n := by have := (List.getElem?_eq_some_iff.1 h).1; rwa [rowF_len] at this
  simp [rowF, hj] at h
  exact ⟨hj, h.symm⟩
theorem rowF_add (f : Nat → Int) (o n m : Nat) : rowF f o (n + m) = rowF f o n ++ rowF f (o + n) m := by
  induction m with
  | zero => simp [rowF]
  | succ m ih => rw [← Nat.add_assoc, rowF_snoc, ih, rowF_snoc, List.append_assoc, Nat.add_assoc]
theorem rowF_byts {f : Nat → Int} (R : Rng f) (o n : Nat) : ∀ b ∈ rowF f o n, 0 ≤ b ∧ b ≤ 255 := by
  intro b hb
  simp only [rowF, List.mem_map, List.mem_range] at hb
  obtain ⟨i, _, rfl⟩ := hb
  exact R _
/-- The bytes of channels. -/
def dmB (f : Nat → Int) : List Int := (le 4 96 ++ rowF f 0 96) ++ rowF f 96 8
theorem dmB_len (f : Nat → Int) : (dmB f).length = 108 := by simp [dmB, le_len, rowF_len]
theorem dmB_byts {f : Nat → Int} (R : Rng f) : ∀ b ∈ dmB f, 0 ≤ b ∧ b ≤ 255 := by
  intro b hb
  simp only [dmB, List.mem_append] at hb
  rcases hb with (hb | hb) | hb
  · exact le_byte _ _ b hb
  · exact rowF_byts R _ _ b hb
  · exact rowF_byts R _ _ b hb
theorem dmB_ne (f : Nat → Int) : dmB f ≠ [] := by intro e; have := dmB_len f; rw [e] at this; cases this
theorem le1 (x : Int) (h0 : 0 ≤ x) (h1 : x ≤ 255) : le 1 x = [x] := by simp [le]; omega
theorem slice_ch (g o : Nat) (w : World) : (Instr.sliceAt 68 (.pointer (some ⟨g, o, none⟩)) none none none).run Try.prog w = .ok (.slice (some ⟨g, o, none⟩) 12 12) w := by
  have hlen : Try.prog.arrayLen 68 = 12 := by kernel_rfl
  have e := Go.run_sliceAt_array_all (P := Try.prog) w 68 ⟨g, o, none⟩ (by kernel_rfl)
  have hsz : (sizeOf (Try.prog.elem 68)).run Try.prog w = .ok 1 w := by kernel_rfl
  rw [e, hlen, hsz]
  simp [slicedAt, Addr.add, Result.andThen]
theorem Da.old {w w' : World} {g : Nat} {f : Nat → Int} (h : Da w g f) (k : w'.heap[g]? = w.heap[g]?) : Da w' g f := by
  obtain ⟨cs, hb, r⟩ := h
  exact ⟨cs, k.trans hb, r⟩
theorem Da.ws {w w' : World} {g gw : Nat} {bv bv' : Value} {f : Nat → Int} (s : WStep w gw bv w' bv') (h : Da w g f) (n : g ≠ gw) (n2 : bv.ownBlock ≠ some g) : Da w' g f := h.old (s.block g h.lt n n2)
section
variable {w : World} {g gw : Nat} {f : Nat → Int} {bv : Value} {bs : List Int}
set_option maxHeartbeats 16000000 in
theorem saveDa_any (A : Da w g f) (R : Rng f) (H : Wr w gw bv bs) (n1 : g ≠ gw) (n2 : bv.ownBlock ≠ some g) (hl : bs.length ≤ 1000) :
    Calls Try.prog 49 #[at_ g 0, wrP' gw] w (PutP w gw bv (bs ++ dmB f)) := by
  obtain ⟨i0, hi, hz0, hz1, hz2⟩ := info_parts saU8
  have AA := Lib.hid A
  have RR := Lib.hid R
  have HH := Lib.hid H
  clear A R H
  go_enter Try.func49, Try.ntmps49
  go_wp2_with fail
  go_loopw [4, 10] (fun s i wr => ∃ k : Nat, k ≤ 8 ∧ i = .int .i64 k ∧ SRow wr w.heap.size s (rowF f 0 (k * 12)) ∧ Below w.heap.size w wr) (fun _ i _ => 8 - (intOf i).toNat)
  case atStart => exact ⟨0, by omega, rfl, SRow.nil _ _, Below.refl _ _⟩
  case round =>
    obtain ⟨k, hk, rfl, hr, hb⟩ := hrel
    have R2 := Lib.hid hr
    have B2 := Lib.hid hb
    by_cases hlt : k < 8
    · have own := hr
      unfold SRow at own
      obtain ⟨ao, cx, hs⟩ := SRow.slice hr
      rw [rowF_len] at own hs
      subst hs
      have hsl := slice_ch g (k * 12) wr
      have AW := AA.out.kept hb
      have HNW : Hid (∀ j u, ((rowF f (k * 12) 12).map (Value.int .u8))[j]? = some u → wr.cell? ((⟨g, k * 12, none⟩ : Addr).add j) = some u) := Lib.hid (pcNews (fun j u hj => by
        obtain ⟨hj, rfl⟩ := rowF_at _ _ _ _ _ hj
        exact AW.cell (by omega)))
      have H1C := Lib.hid (oneNews (rowF f (k * 12) 12))
      have HL3 : Hid (((rowF f (k * 12) 12).map (Value.int .u8)).length = 12 * 1) := Lib.hid (by rw [List.length_map, rowF_len])
      have HD := Lib.hid (rowF_len f (k * 12) 12)
      have hsz := hb.size
      have E1 : Hid (rowF f 0 ((k + 1) * 12) = rowF f 0 (k * 12) ++ rowF f (k * 12) 12) := Lib.hid (by rw [Nat.succ_mul, rowF_add, Nat.zero_add])
      have hol := rowF_len f 0 (k * 12)
      obtain ⟨X, hX⟩ : ∃ X, rowF f 0 (k * 12) = X := ⟨_, rfl⟩
      obtain ⟨Y, hY⟩ : ∃ Y, rowF f (k * 12) 12 = Y := ⟨_, rfl⟩
      have HX := Lib.hid hX
      rw [hX] at own hol E1
      rw [hY] at HNW H1C HL3 HD E1
      have HOL := Lib.hid hol
      clear hr hb AW hX hY hol
      go_wp2_with (first
        | (at_builtin; refine wpList_append_own_at _ rfl _ _ 40 rfl w.heap.size 5 i0 (.int .u8 0) 1 1 Try.underlying40 hi hz0 hz1 hz2 rfl (by decide) _ (k * 12) _ rfl own ⟨g, k * 12, none⟩ 12 12 (Y.map (Value.int .u8)) rfl HL3.out HNW.out H1C.out (by unfold maxLen; omega) (by omega) hsz ?_; intro v1 w1 own1 hg1 hnil1 hat1))
      have R3 := Lib.hid (srowMore (xs := X) HD.out (by rw [HOL.out]; exact own1))
      have B3 := Lib.hid (B2.out.grown hg1 hsz (fun k e => own_base' own e))
      clear own own1 hg1 hnil1 hat1
      go_roundw
      case rel => exact ⟨k + 1, by omega, by go_num, by rw [E1.out]; exact R3.out, B3.out⟩
      case measure => simp [intOf]; omega
    · have hk8 : k = 8 := by omega
      subst hk8
      have PB := Lib.hid (putBytes_any (HH.out.kept hb) _ (hr.pc (by intro e; have := rowF_len f 0 96; rw [e] at this; cases this)) (by rw [rowF_len]; omega) (by omega))
      rw [rowF_len] at PB
      obtain ⟨ao, cx, hs⟩ := SRow.slice hr
      subst hs
      have A3 := Lib.hid (AA.out.kept hb)
      obtain ⟨X, hX⟩ : ∃ X, bs ++ (le 4 (96 : Nat) ++ rowF f 0 96) = X := ⟨_, rfl⟩
      have E : Hid (X ++ rowF f 96 8 = bs ++ dmB f) := Lib.hid (by rw [← hX]; simp [dmB])
      have XL : Hid (X.length ≤ 1100) := Lib.hid (by rw [← hX]; simp [le_len, rowF_len]; omega)
      have PB2 : Hid (Calls Try.prog 58 #[wrP' gw, .slice ao (rowF f 0 (8 * 12)).length cx] wr (PutP wr gw bv X)) := Lib.hid (by rw [← hX]; exact PB.out)
      clear hr hb hX PB R2
      go_wp2_with fail
      refine PB2.out.mono ?_
      rintro e w1 ⟨rfl, b1, h1, s1⟩
      have A4 := Lib.hid (Da.ws s1 A3.out n1 n2)
      have H4 := Lib.hid h1
      have S4 := Lib.hid ((WStep.ofBelow B2.out gw bv).trans s1)
      clear h1 s1 A3 PB2
      go_wp2_with fail
      refine (bytesP_any _ g).mono ?_
      rintro e w2 ⟨rfl, hb2⟩
      have A5 := Lib.hid (A4.out.kept hb2)
      have H5 := Lib.hid (H4.out.kept hb2)
      have S5 := Lib.hid (S4.out.below hb2)
      clear hb2 A4 H4 S4
      go_wp2_with fail
      go_loopw [27] (fun i wr => ∃ (k : Nat) (b1 : Value), k ≤ 8 ∧ i = .int .i64 k ∧ Wr wr gw b1 (X ++ rowF f 96 k) ∧ Da wr g f ∧ WStep w gw bv wr b1) (fun i _ => 8 - (intOf i).toNat)
      case atStart => exact ⟨0, _, by omega, rfl, by simpa [rowF] using H5.out, A5.out, S5.out⟩
      case round =>
        obtain ⟨k, b1, hk, rfl, h1, a1, s1⟩ := hrel
        have H1 := Lib.hid h1
        have S1 := Lib.hid s1
        clear s1 H5 S5 A5
        by_cases hlt : k < 8
        · have hidx := bytes_idx g k hlt wr
          have ho : bytesO.getD k 0 = 96 + k := by
            rcases (show k = 0 ∨ k = 1 ∨ k = 2 ∨ k = 3 ∨ k = 4 ∨ k = 5 ∨ k = 6 ∨ k = 7 by omega) with rfl | rfl | rfl | rfl | rfl | rfl | rfl | rfl
            all_goals rfl
          rw [ho] at hidx
          have hc : wr.cell? ⟨g, 96 + k, none⟩ = some (.int .u8 (f (96 + k))) := a1.cell (by omega)
          have BY := Lib.hid (byte_any h1 (f (96 + k)) (RR.out _).1 (RR.out _).2 (by rw [List.length_append, rowF_len]; have := XL.out; omega))
          rw [le1 _ (RR.out _).1 (RR.out _).2, List.append_assoc, ← rowF_snoc] at BY
          have A1 := Lib.hid a1
          obtain ⟨x, hx⟩ : ∃ x, f (96 + k) = x := ⟨_, rfl⟩
          rw [hx] at hc BY
          clear h1 ho hx a1
          go_wp2_with fail
          refine BY.out.mono ?_
          rintro e w3 ⟨rfl, b3, h3, s3⟩
          have H3 := Lib.hid h3
          have hb1 : b1.ownBlock ≠ some g := fun e => by
            rcases S1.out.own g e with e | e
            · exact n2 e
            · have := AA.out.lt; omega
          have A3 := Lib.hid (Da.ws s3 A1.out n1 hb1)
          have S3 := Lib.hid (S1.out.trans s3)
          clear h3 s3 hc BY A1
          go_wp2_with fail
          go_roundw
          case rel => exact ⟨k + 1, _, by omega, by go_num, H3.out, A3.out, S3.out⟩
          case measure => simp [intOf]; omega
        · have hk8 : k = 8 := by omega
          subst hk8
          rw [E.out] at H1
          clear h1 a1
          go_wp2_with fail
          go_end0
          exact ⟨rfl, _, H1.out, S1.out⟩
set_option maxHeartbeats 4000000 in
theorem savedDa_any (A : Da w g f) (R : Rng f) : Calls Try.prog 25 #[at_ g 0] w (fun e w' => ∃ v, e = .returned v ∧ FileAt w.heap.size (fileOf (dmB f)) v w' ∧ Below w.heap.size w w') := by
  have AA := Lib.hid A
  have hlt := A.lt
  clear A
  go_enter Try.func25, Try.ntmps25
  go_wp2_with fail
  refine (newW_any w).mono ?_
  rintro e w1 ⟨gw, rfl, hg, h1, b1⟩
  have SV := Lib.hid (saveDa_any (AA.out.kept b1) R h1 (by omega) (by simp [Value.ownBlock]) (by simp))
  have B1 := Lib.hid b1
  clear h1 b1
  go_wp2_with fail
  refine SV.out.mono ?_
  rintro e w2 ⟨rfl, bv, h2, s2⟩
  obtain ⟨b2, _⟩ := s2.out B1.out hg (fun b h => by simp [Value.ownBlock] at h)
  rw [List.nil_append] at h2
  have B2 := Lib.hid b2
  have DN := Lib.hid (done_any h2 (dmB_ne f) (dmB_byts R) (by rw [dmB_len]; omega))
  clear h2 s2 b2 SV
  go_wp2_with fail
  refine DN.out.mono ?_
  rintro e w3 ⟨v, rfl, hf, b3⟩
  have HF := Lib.hid (hf.weak B2.out.size)
  have B3 := Lib.hid (B2.out.trans (b3.mono B2.out.size))
  clear hf b3 DN
  go_wp2_with fail
  go_ret
  exact ⟨v, rfl, HF.out, B3.out⟩
end
end Go.Proofs.Ytkeikkkcmackeaa
