/- dma: put: the document's channels as bytes. -/
import Derived.Test.YtkeikkkcmackeaaDmaT
namespace Go.Proofs.Ytkeikkkcmackeaa
open Go.RowKit
set_option linter.unusedVariables false
set_option linter.unusedSimpArgs false
set_option maxRecDepth 100000
/-- The document's channels in memory. -/
abbrev Ra (w : World) (g : Nat) (f : Nat → Int) : Prop := Arr w .u8 51 g 104 f
/-- As a value. -/
structure Rw (f : Nat → Int) (cs : Array Value) : Prop where
  sz : cs.size = 104
  here : ∀ j, j < 104 → cs[j]? = some (.int .u8 (f j))
theorem Rw.new {f : Nat → Int} {cs : Array Value} (h : Rw f cs) (w : World) : Ra (w.alloc (.cells cs 51)) w.heap.size f := ⟨cs, Blk.new _ _ _, by rw [h.sz]; exact Nat.le_refl _, h.here⟩
theorem Ra.old {w w' : World} {g : Nat} {f : Nat → Int} (h : Ra w g f) (k : w'.heap[g]? = w.heap[g]?) : Ra w' g f := by
  obtain ⟨cs, hb, r⟩ := h
  exact ⟨cs, k.trans hb, r⟩
theorem Ra.ws {w w' : World} {g gw : Nat} {bv bv' : Value} {f : Nat → Int} (s : WStep w gw bv w' bv') (h : Ra w g f) (n : g ≠ gw) (n2 : bv.ownBlock ≠ some g) : Ra w' g f := h.old (s.block g h.lt n n2)
section
variable {f : Nat → Int}
set_option maxHeartbeats 16000000 in
theorem putDa_any (w : World) (cs : Array Value) (K : Rw f cs) (R : Rng f) : Calls Try.prog 30 #[.agg cs] w (fun e w' => ∃ v, e = .returned v ∧ FileAt w.heap.size (fileOf (dmB f)) v w' ∧ Below w.heap.size w w') := by
  obtain ⟨i0, hi, hz0, hz1, hz2⟩ := info_parts saU8
  have RR := Lib.hid R
  go_enter Try.func30, Try.ntmps30
  try simp only [List.append_eq, List.cons_append, List.nil_append]
  go_upto_region 1 with (fail)
  obtain ⟨W2, hW⟩ : ∃ W2, W2 = w.alloc (.cells cs 51) := ⟨_, rfl⟩
  obtain ⟨B, hB⟩ : ∃ B, B = w.heap.size := ⟨_, rfl⟩
  have cb : Below w.heap.size w W2 := by rw [hW]; exact belowA (Below.refl _ _) _
  have k : Ra W2 B f := by rw [hW, hB]; exact K.new w
  have hsz : W2.heap.size = B + 1 := by rw [hW, hB]; simp
  rw [← hW, ← hB]
  have CB2 := Lib.hid cb
  have KB := Lib.hid k
  clear hW hB cb k R K
  go_wp2_with fail
  refine (newW_any W2).mono ?_
  rintro e w0 ⟨gw, rfl, hg, h0, b0⟩
  have n1 : B ≠ gw := by omega
  have AA := Lib.hid (KB.out.kept b0)
  have B0 := Lib.hid (CB2.out.trans (b0.mono CB2.out.size))
  have HG := Lib.hid (Nat.le_trans CB2.out.size hg)
  have HH := Lib.hid h0
  have AL := Lib.hid (show B < w0.heap.size from AA.out.lt)
  clear h0 b0 KB hsz hg CB2
  go_wp2_with fail
  go_loopw [4, 5] (fun s i wr => ∃ c : Nat, c ≤ 8 ∧ i = .int .i64 c ∧ SRow wr w0.heap.size s (rowF f 0 (c * 12)) ∧ Below w0.heap.size w0 wr) (fun _ i _ => 8 - (intOf i).toNat)
  case atStart => exact ⟨0, by omega, rfl, SRow.nil _ _, Below.refl _ _⟩
  case round =>
    obtain ⟨c, hk, rfl, hr, hb⟩ := hrel
    have R2 := Lib.hid hr
    have B2 := Lib.hid hb
    by_cases hlt : c < 8
    · clear hr hb
      go_wp2_with fail
      have hdc : decide ((c : Int) < 8) = true := decide_eq_true (by omega)
      try rw [hdc]
      clear hdc
      go_loopw [4, 6] (fun s i wr => ∃ k : Nat, k ≤ 12 ∧ i = .int .i64 k ∧ SRow wr w0.heap.size s (rowF f 0 (c * 12 + k)) ∧ Below w0.heap.size w0 wr) (fun _ i _ => 12 - (intOf i).toNat)
      case atStart => exact ⟨0, by omega, rfl, R2.out, B2.out⟩
      case round =>
        obtain ⟨k, hk2, rfl, hr, hb⟩ := hrel
        have R3 := Lib.hid hr
        have B3 := Lib.hid hb
        clear R2 B2
        by_cases hlt2 : k < 12
        · have hc : wr.cell? ⟨B, c * 12 + k, none⟩ = some (.int .u8 (f (c * 12 + k))) := (AA.out.kept hb).cell (by omega)
          obtain ⟨x, hx⟩ : ∃ x, f (c * 12 + k) = x := ⟨_, rfl⟩
          have E1 : Hid (rowF f 0 (c * 12 + (k + 1)) = rowF f 0 (c * 12 + k) ++ [x]) := Lib.hid (by rw [← hx, ← Nat.add_assoc, rowF_snoc, Nat.zero_add])
          rw [hx] at hc
          have own := R3.out.below (belowA (Below.refl wr.heap.size wr) (.cells #[.int .u8 x] 5))
          have hol := rowF_len f 0 (c * 12 + k)
          obtain ⟨X, hX⟩ : ∃ X, rowF f 0 (c * 12 + k) = X := ⟨_, rfl⟩
          rw [hX] at own hol E1
          unfold SRow at own
          have hszz := hb.size
          clear hr hb hx hX
          go_wp2_with (first
            | (at_builtin; refine wpList_append_own_at _ rfl _ _ 40 rfl w0.heap.size 5 i0 (.int .u8 0) 1 1 Try.underlying40 hi hz0 hz1 hz2 rfl (by decide) _ _ _ rfl own ⟨wr.heap.size, 0, none⟩ 1 1 [.int .u8 x] rfl rfl (cell_one_new _ _ _) (fun x hx => by simp at hx; subst hx; rfl) (by unfold maxLen; omega) (by omega) (by simp; omega) ?_; intro v1 w1 own1 hg1 hnil1 hat1))
          have R4 := Lib.hid (SRow.push own1)
          have B4 := Lib.hid ((belowA B3.out (.cells #[.int .u8 x] 5)).grown hg1 (by simp; omega) (fun k e => own_base' own e))
          clear own own1 hg1 hnil1 hat1
          go_roundw
          case rel => exact ⟨k + 1, by omega, by go_num, by rw [E1.out]; exact R4.out, B4.out⟩
          case measure => simp [intOf]; omega
        · have hk8 : k = 12 := by omega
          subst hk8
          clear hr hb
          go_wp2_with fail
          go_roundw
          case rel => exact ⟨c + 1, by omega, by go_num, by rw [Nat.succ_mul]; exact R3.out, B3.out⟩
          case measure => simp [intOf]; omega
    · have hk8 : c = 8 := by omega
      subst hk8
      have PB := Lib.hid (putBytes_any (HH.out.kept hb) _ (hr.pc (by intro e; have := rowF_len f 0 96; rw [e] at this; cases this)) (by rw [rowF_len]; omega) (by simp))
      rw [rowF_len] at PB
      obtain ⟨ao, cx, hs⟩ := SRow.slice hr
      subst hs
      have A0 := Lib.hid (AA.out.kept hb)
      obtain ⟨X, hX⟩ : ∃ X, [] ++ (le 4 (96 : Nat) ++ rowF f 0 96) = X := ⟨_, rfl⟩
      have E : Hid (X ++ rowF f 96 8 = dmB f) := Lib.hid (by rw [← hX]; simp [dmB])
      have XL : Hid (X.length ≤ 100) := Lib.hid (by rw [← hX]; simp [le_len, rowF_len])
      have PB2 : Hid (Calls Try.prog 58 #[wrP' gw, .slice ao (rowF f 0 (8 * 12)).length cx] wr (PutP wr gw (.slice none 0 0) X)) := Lib.hid (by rw [← hX]; exact PB.out)
      clear hr hb hX PB R2
      go_wp2_with fail
      refine PB2.out.mono ?_
      rintro e w1 ⟨rfl, bv0, h1, s1⟩
      have A0 := Lib.hid (Ra.ws s1 A0.out n1 (by simp [Value.ownBlock]))
      have H0 : Hid (Wr w1 gw bv0 (X ++ rowF f 96 0)) := Lib.hid (by simpa [rowF] using h1)
      have S0 := Lib.hid ((WStep.ofBelow B2.out gw (.slice none 0 0)).trans s1)
      clear h1 s1 PB2 AA
      have c0 : w1.cell? ⟨B, 96, none⟩ = some (.int .u8 (f 96)) := A0.out.cell (by omega)
      have N0 := Lib.hid (byte_any H0.out (f (96 + 0)) (RR.out _).1 (RR.out _).2 (by rw [List.length_append, rowF_len]; have := XL.out; omega))
      rw [le1 _ (RR.out _).1 (RR.out _).2, List.append_assoc, ← rowF_snoc] at N0
      have hn0 : bv0.ownBlock ≠ some B := fun e => by
        rcases S0.out.own B e with e | e
        · simp [Value.ownBlock] at e
        · have := AL.out; omega
      have HN0 := Lib.hid hn0
      simp only [Nat.reduceAdd] at N0
      obtain ⟨x0, hx0⟩ : ∃ x, f 96 = x := ⟨_, rfl⟩
      rw [hx0] at c0 N0
      clear hx0 hn0
      go_wp2_with fail
      refine N0.out.mono ?_
      rintro e w2 ⟨rfl, bv1, h1, s1⟩
      have A1 := Lib.hid (Ra.ws s1 A0.out n1 HN0.out)
      have H1 : Hid (Wr w2 gw bv1 (X ++ rowF f 96 1)) := Lib.hid h1
      have S1 := Lib.hid (S0.out.trans s1)
      clear h1 s1 N0 c0 A0 H0 S0 HN0
      have c1 : w2.cell? ⟨B, 97, none⟩ = some (.int .u8 (f 97)) := A1.out.cell (by omega)
      have N1 := Lib.hid (byte_any H1.out (f (96 + 1)) (RR.out _).1 (RR.out _).2 (by rw [List.length_append, rowF_len]; have := XL.out; omega))
      rw [le1 _ (RR.out _).1 (RR.out _).2, List.append_assoc, ← rowF_snoc] at N1
      have hn1 : bv1.ownBlock ≠ some B := fun e => by
        rcases S1.out.own B e with e | e
        · simp [Value.ownBlock] at e
        · have := AL.out; omega
      have HN1 := Lib.hid hn1
      simp only [Nat.reduceAdd] at N1
      obtain ⟨x1, hx1⟩ : ∃ x, f 97 = x := ⟨_, rfl⟩
      rw [hx1] at c1 N1
      clear hx1 hn1
      go_wp2_with fail
      refine N1.out.mono ?_
      rintro e w3 ⟨rfl, bv2, h1, s1⟩
      have A2 := Lib.hid (Ra.ws s1 A1.out n1 HN1.out)
      have H2 : Hid (Wr w3 gw bv2 (X ++ rowF f 96 2)) := Lib.hid h1
      have S2 := Lib.hid (S1.out.trans s1)
      clear h1 s1 N1 c1 A1 H1 S1 HN1
      have c2 : w3.cell? ⟨B, 98, none⟩ = some (.int .u8 (f 98)) := A2.out.cell (by omega)
      have N2 := Lib.hid (byte_any H2.out (f (96 + 2)) (RR.out _).1 (RR.out _).2 (by rw [List.length_append, rowF_len]; have := XL.out; omega))
      rw [le1 _ (RR.out _).1 (RR.out _).2, List.append_assoc, ← rowF_snoc] at N2
      have hn2 : bv2.ownBlock ≠ some B := fun e => by
        rcases S2.out.own B e with e | e
        · simp [Value.ownBlock] at e
        · have := AL.out; omega
      have HN2 := Lib.hid hn2
      simp only [Nat.reduceAdd] at N2
      obtain ⟨x2, hx2⟩ : ∃ x, f 98 = x := ⟨_, rfl⟩
      rw [hx2] at c2 N2
      clear hx2 hn2
      go_wp2_with fail
      refine N2.out.mono ?_
      rintro e w4 ⟨rfl, bv3, h1, s1⟩
      have A3 := Lib.hid (Ra.ws s1 A2.out n1 HN2.out)
      have H3 : Hid (Wr w4 gw bv3 (X ++ rowF f 96 3)) := Lib.hid h1
      have S3 := Lib.hid (S2.out.trans s1)
      clear h1 s1 N2 c2 A2 H2 S2 HN2
      have c3 : w4.cell? ⟨B, 99, none⟩ = some (.int .u8 (f 99)) := A3.out.cell (by omega)
      have N3 := Lib.hid (byte_any H3.out (f (96 + 3)) (RR.out _).1 (RR.out _).2 (by rw [List.length_append, rowF_len]; have := XL.out; omega))
      rw [le1 _ (RR.out _).1 (RR.out _).2, List.append_assoc, ← rowF_snoc] at N3
      have hn3 : bv3.ownBlock ≠ some B := fun e => by
        rcases S3.out.own B e with e | e
        · simp [Value.ownBlock] at e
        · have := AL.out; omega
      have HN3 := Lib.hid hn3
      simp only [Nat.reduceAdd] at N3
      obtain ⟨x3, hx3⟩ : ∃ x, f 99 = x := ⟨_, rfl⟩
      rw [hx3] at c3 N3
      clear hx3 hn3
      go_wp2_with fail
      refine N3.out.mono ?_
      rintro e w5 ⟨rfl, bv4, h1, s1⟩
      have A4 := Lib.hid (Ra.ws s1 A3.out n1 HN3.out)
      have H4 : Hid (Wr w5 gw bv4 (X ++ rowF f 96 4)) := Lib.hid h1
      have S4 := Lib.hid (S3.out.trans s1)
      clear h1 s1 N3 c3 A3 H3 S3 HN3
      have c4 : w5.cell? ⟨B, 100, none⟩ = some (.int .u8 (f 100)) := A4.out.cell (by omega)
      have N4 := Lib.hid (byte_any H4.out (f (96 + 4)) (RR.out _).1 (RR.out _).2 (by rw [List.length_append, rowF_len]; have := XL.out; omega))
      rw [le1 _ (RR.out _).1 (RR.out _).2, List.append_assoc, ← rowF_snoc] at N4
      have hn4 : bv4.ownBlock ≠ some B := fun e => by
        rcases S4.out.own B e with e | e
        · simp [Value.ownBlock] at e
        · have := AL.out; omega
      have HN4 := Lib.hid hn4
      simp only [Nat.reduceAdd] at N4
      obtain ⟨x4, hx4⟩ : ∃ x, f 100 = x := ⟨_, rfl⟩
      rw [hx4] at c4 N4
      clear hx4 hn4
      go_wp2_with fail
      refine N4.out.mono ?_
      rintro e w6 ⟨rfl, bv5, h1, s1⟩
      have A5 := Lib.hid (Ra.ws s1 A4.out n1 HN4.out)
      have H5 : Hid (Wr w6 gw bv5 (X ++ rowF f 96 5)) := Lib.hid h1
      have S5 := Lib.hid (S4.out.trans s1)
      clear h1 s1 N4 c4 A4 H4 S4 HN4
      have c5 : w6.cell? ⟨B, 101, none⟩ = some (.int .u8 (f 101)) := A5.out.cell (by omega)
      have N5 := Lib.hid (byte_any H5.out (f (96 + 5)) (RR.out _).1 (RR.out _).2 (by rw [List.length_append, rowF_len]; have := XL.out; omega))
      rw [le1 _ (RR.out _).1 (RR.out _).2, List.append_assoc, ← rowF_snoc] at N5
      have hn5 : bv5.ownBlock ≠ some B := fun e => by
        rcases S5.out.own B e with e | e
        · simp [Value.ownBlock] at e
        · have := AL.out; omega
      have HN5 := Lib.hid hn5
      simp only [Nat.reduceAdd] at N5
      obtain ⟨x5, hx5⟩ : ∃ x, f 101 = x := ⟨_, rfl⟩
      rw [hx5] at c5 N5
      clear hx5 hn5
      go_wp2_with fail
      refine N5.out.mono ?_
      rintro e w7 ⟨rfl, bv6, h1, s1⟩
      have A6 := Lib.hid (Ra.ws s1 A5.out n1 HN5.out)
      have H6 : Hid (Wr w7 gw bv6 (X ++ rowF f 96 6)) := Lib.hid h1
      have S6 := Lib.hid (S5.out.trans s1)
      clear h1 s1 N5 c5 A5 H5 S5 HN5
      have c6 : w7.cell? ⟨B, 102, none⟩ = some (.int .u8 (f 102)) := A6.out.cell (by omega)
      have N6 := Lib.hid (byte_any H6.out (f (96 + 6)) (RR.out _).1 (RR.out _).2 (by rw [List.length_append, rowF_len]; have := XL.out; omega))
      rw [le1 _ (RR.out _).1 (RR.out _).2, List.append_assoc, ← rowF_snoc] at N6
      have hn6 : bv6.ownBlock ≠ some B := fun e => by
        rcases S6.out.own B e with e | e
        · simp [Value.ownBlock] at e
        · have := AL.out; omega
      have HN6 := Lib.hid hn6
      simp only [Nat.reduceAdd] at N6
      obtain ⟨x6, hx6⟩ : ∃ x, f 102 = x := ⟨_, rfl⟩
      rw [hx6] at c6 N6
      clear hx6 hn6
      go_wp2_with fail
      refine N6.out.mono ?_
      rintro e w8 ⟨rfl, bv7, h1, s1⟩
      have A7 := Lib.hid (Ra.ws s1 A6.out n1 HN6.out)
      have H7 : Hid (Wr w8 gw bv7 (X ++ rowF f 96 7)) := Lib.hid h1
      have S7 := Lib.hid (S6.out.trans s1)
      clear h1 s1 N6 c6 A6 H6 S6 HN6
      have c7 : w8.cell? ⟨B, 103, none⟩ = some (.int .u8 (f 103)) := A7.out.cell (by omega)
      have N7 := Lib.hid (byte_any H7.out (f (96 + 7)) (RR.out _).1 (RR.out _).2 (by rw [List.length_append, rowF_len]; have := XL.out; omega))
      rw [le1 _ (RR.out _).1 (RR.out _).2, List.append_assoc, ← rowF_snoc] at N7
      have hn7 : bv7.ownBlock ≠ some B := fun e => by
        rcases S7.out.own B e with e | e
        · simp [Value.ownBlock] at e
        · have := AL.out; omega
      have HN7 := Lib.hid hn7
      simp only [Nat.reduceAdd] at N7
      obtain ⟨x7, hx7⟩ : ∃ x, f 103 = x := ⟨_, rfl⟩
      rw [hx7] at c7 N7
      clear hx7 hn7
      go_wp2_with fail
      refine N7.out.mono ?_
      rintro e w9 ⟨rfl, bv8, h1, s1⟩
      have A8 := Lib.hid (Ra.ws s1 A7.out n1 HN7.out)
      have H8 : Hid (Wr w9 gw bv8 (X ++ rowF f 96 8)) := Lib.hid h1
      have S8 := Lib.hid (S7.out.trans s1)
      clear h1 s1 N7 c7 A7 H7 S7 HN7
      obtain ⟨b9, _⟩ := S8.out.out B0.out HG.out (fun b h => by simp [Value.ownBlock] at h)
      have h9 := H8.out
      rw [E.out] at h9
      have B9 := Lib.hid b9
      have DN := Lib.hid (done_any h9 (dmB_ne f) (dmB_byts RR.out) (by rw [dmB_len]; omega))
      clear h9 H8 S8 A8 b9
      go_wp2_with fail
      refine DN.out.mono ?_
      rintro e w11 ⟨v, rfl, hf, b11⟩
      have HF := Lib.hid (hf.weak B9.out.size)
      have B11 := Lib.hid (B9.out.trans (b11.mono B9.out.size))
      clear hf b11 DN
      go_wp2_with fail
      go_ret
      exact ⟨v, rfl, HF.out, B11.out⟩
end
end Go.Proofs.Ytkeikkkcmackeaa
