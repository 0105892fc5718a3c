/- beam: a counter in memory; Save, saved, put. -/
import Derived.Test.YtjhicjmfdcipmaaBeamA
import Derived.Test.YtjhicjmfdcipmaaSaveFW
import Derived.Test.YtjhicjmfdcipmaaSaveFF
import Derived.Test.YtjhicjmfdcipmaaSaveI
import Derived.Test.YtjhicjmfdcipmaaSame
namespace Go.Proofs.Ytjhicjmfdcipmaa
open Go.RowKit
set_option linter.unusedVariables false
set_option linter.unusedSimpArgs false
set_option maxRecDepth 100000
/-- A counter: what it has kept. -/
structure Ct where
  (dn ln : Int)
  (kept dh lh : Bool)
def Ct.zero : Ct := ⟨0, 0, false, false, false⟩
def Ct.cs (c : Ct) : Array Value := #[.int .u16 c.dn, .bool c.dh, .int .u16 c.ln, .bool c.lh, .bool c.kept]
abbrev Co (w : World) (g : Nat) (c : Ct) : Prop := Blk w g 76 c.cs
/-- The document's. -/
def Ct.rs (c : Ct) : Array Value := #[.int .i64 c.dn, .int .i64 c.ln, .bool c.kept, .bool c.dh, .bool c.lh]
structure Ct.Ok (c : Ct) : Prop where
  d0 : 0 ≤ c.dn
  d1 : c.dn ≤ 65535
  l0 : 0 ≤ c.ln
  l1 : c.ln ≤ 65535
def fl (b : Bool) : List Int := le 1 (if b then 1 else 0)
/-- A counter's bytes. -/
def ctB (c : Ct) : List Int := le 2 c.dn ++ le 2 c.ln ++ fl c.kept ++ fl c.dh ++ fl c.lh
theorem ctB_len (c : Ct) : (ctB c).length = 7 := by simp [ctB, fl, le_len]
theorem ctB_byts (c : Ct) : ∀ b ∈ ctB c, 0 ≤ b ∧ b ≤ 255 := by
  intro b hb
  simp only [ctB, fl, List.mem_append] at hb
  rcases hb with (((hb | hb) | hb) | hb) | hb <;> exact le_byte _ _ b hb
abbrev ctP (g : Nat) : Value := .pointer (some ⟨g, 0, none⟩)
section
variable {w : World} {g gw : Nat} {c : Ct} {bv : Value} {bs : List Int}
set_option maxHeartbeats 8000000 in
theorem saveCt_any (A : Co w g c) (K : c.Ok) (H : Wr w gw bv bs) (n1 : g ≠ gw) (n2 : bv.ownBlock ≠ some g) (hl : bs.length ≤ 1000) :
    Calls Try.prog 41 #[ctP g, wrP' gw] w (PutP w gw bv (bs ++ ctB c)) := by
  have c0 : w.cell? ⟨g, 0, none⟩ = some (.int .u16 c.dn) := A.cell 0
  have N0 := Lib.hid (word_any H c.dn K.d0 K.d1 (by omega))
  have AA := Lib.hid A
  have KK := Lib.hid K
  obtain ⟨d1, hd1⟩ : ∃ d1, le 2 c.dn = d1 := ⟨_, rfl⟩
  have D1 := Lib.hid hd1
  have HB : Hid (bs ++ ctB c = bs ++ le 2 c.dn ++ le 2 c.ln ++ fl c.kept ++ fl c.dh ++ fl c.lh) := Lib.hid (by simp [ctB])
  clear A H hd1 D1 K
  go_enter Try.func41, Try.ntmps41
  go_wp2_with fail
  refine N0.out.mono ?_
  rintro e w1 ⟨rfl, b1, h1, s1⟩
  have A1 := s1.blk AA.out n1 n2
  have c1 : w1.cell? ⟨g, 2, none⟩ = some (.int .u16 c.ln) := A1.cell 2
  have N1 := Lib.hid (word_any h1 c.ln KK.out.l0 KK.out.l1 (by rw [List.length_append, le_len]; omega))
  have S1 := Lib.hid s1
  clear h1 s1 N0 A1 c0
  go_wp2_with fail
  refine N1.out.mono ?_
  rintro e w2 ⟨rfl, b2, h2, s2⟩
  have S2 := Lib.hid (S1.out.trans s2)
  have A2 := S2.out.blk AA.out n1 n2
  have c2 : w2.cell? ⟨g, 4, none⟩ = some (.bool c.kept) := A2.cell 4
  have N2 := Lib.hid (flag_any h2 c.kept (by rw [List.length_append, List.length_append, le_len, le_len]; omega))
  clear h2 s2 N1 A2 c1 S1
  go_wp2_with fail
  refine N2.out.mono ?_
  rintro e w3 ⟨rfl, b3, h3, s3⟩
  have S3 := Lib.hid (S2.out.trans s3)
  have A3 := S3.out.blk AA.out n1 n2
  have c3 : w3.cell? ⟨g, 1, none⟩ = some (.bool c.dh) := A3.cell 1
  have N3 := Lib.hid (flag_any h3 c.dh (by rw [List.length_append, List.length_append, List.length_append, le_len, le_len, le_len]; omega))
  clear h3 s3 N2 A3 c2 S2
  go_wp2_with fail
  refine N3.out.mono ?_
  rintro e w4 ⟨rfl, b4, h4, s4⟩
  have S4 := Lib.hid (S3.out.trans s4)
  have A4 := S4.out.blk AA.out n1 n2
  have c4 : w4.cell? ⟨g, 3, none⟩ = some (.bool c.lh) := A4.cell 3
  have N4 := Lib.hid (flag_any h4 c.lh (by rw [List.length_append, List.length_append, List.length_append, List.length_append, le_len, le_len, le_len, le_len]; omega))
  clear h4 s4 N3 A4 c3 S3
  go_wp2_with fail
  refine N4.out.mono ?_
  rintro e w5 ⟨rfl, b5, h5, s5⟩
  have H5 := Lib.hid h5
  have S5 := Lib.hid (S4.out.trans s5)
  clear h5 s5 N4 c4 S4
  go_wp2_with fail
  go_end0
  exact ⟨rfl, b5, by rw [HB.out]; exact H5.out, S5.out⟩
set_option maxHeartbeats 4000000 in
theorem savedCt_any (A : Co w g c) (K : c.Ok) : Calls Try.prog 25 #[ctP g] w (fun e w' => ∃ v, e = .returned v ∧ FileAt w.heap.size (fileOf (ctB c)) v w' ∧ Below w.heap.size w w') := by
  have AA := Lib.hid A
  have hlt := A.lt
  clear A
  go_enter Try.func25, Try.ntmps25
  go_wp2_with fail
  refine (newW_any w).mono ?_
  rintro e w1 ⟨gw, rfl, hg, h1, b1⟩
  have SV := Lib.hid (saveCt_any (AA.out.kept b1) K h1 (by omega) (by simp [Value.ownBlock]) (by simp))
  have B1 := Lib.hid b1
  clear h1 b1
  go_wp2_with fail
  refine SV.out.mono ?_
  rintro e w2 ⟨rfl, bv, h2, s2⟩
  obtain ⟨b2, _⟩ := s2.out B1.out hg (fun b h => by simp [Value.ownBlock] at h)
  rw [List.nil_append] at h2
  have B2 := Lib.hid b2
  have DN := Lib.hid (done_any h2 (by intro e; have := ctB_len c; rw [e] at this; cases this) (ctB_byts c) (by rw [ctB_len]; omega))
  clear h2 s2 b2 SV
  go_wp2_with fail
  refine DN.out.mono ?_
  rintro e w3 ⟨v, rfl, hf, b3⟩
  have HF := Lib.hid (hf.weak B2.out.size)
  have B3 := Lib.hid (B2.out.trans (b3.mono B2.out.size))
  clear hf b3 DN
  go_wp2_with fail
  go_ret
  exact ⟨v, rfl, HF.out, B3.out⟩
set_option maxHeartbeats 8000000 in
theorem putCt_any (w : World) (c : Ct) (K : c.Ok) : Calls Try.prog 21 #[.agg c.rs] w (fun e w' => ∃ v, e = .returned v ∧ FileAt w.heap.size (fileOf (ctB c)) v w' ∧ Below w.heap.size w w') := by
  obtain ⟨k0, k1, k2, k3⟩ := K
  have HB : Hid ([] ++ le 2 c.dn ++ le 2 c.ln ++ fl c.kept ++ fl c.dh ++ fl c.lh = ctB c) := Lib.hid (by simp [ctB])
  have CB := Lib.hid (ctB_byts c)
  have CL := Lib.hid (ctB_len c)
  have WD : IntKind.u16.wrap c.dn = c.dn := by simp [IntKind.wrap, IntKind.bits, IntKind.signed]; omega
  have WL : IntKind.u16.wrap c.ln = c.ln := by simp [IntKind.wrap, IntKind.bits, IntKind.signed]; omega
  unfold Ct.rs
  go_enter Try.func21, Try.ntmps21
  go_upto_region 1 with (fail)
  obtain ⟨W2, hW⟩ : ∃ W2, W2 = w.alloc (.cells #[.int .i64 c.dn, .int .i64 c.ln, .bool c.kept, .bool c.dh, .bool c.lh] 37) := ⟨_, rfl⟩
  obtain ⟨B, hB⟩ : ∃ B, B = w.heap.size := ⟨_, rfl⟩
  have cb : Below w.heap.size w W2 := by rw [hW]; exact belowA (Below.refl _ _) _
  have k : Blk W2 B 37 #[.int .i64 c.dn, .int .i64 c.ln, .bool c.kept, .bool c.dh, .bool c.lh] := by rw [hW, hB]; exact Blk.new _ _ _
  have hsz : W2.heap.size = B + 1 := by rw [hW, hB]; simp
  rw [← hW, ← hB]
  have CB2 := Lib.hid cb
  have KB := Lib.hid k
  have HBB := Lib.hid hB
  clear hW hB cb k
  go_wp2_with fail
  refine (newW_any W2).mono ?_
  rintro e w0 ⟨gw, rfl, hg, h0, b0⟩
  have KB0 := KB.out.kept b0
  have n1 : B ≠ gw := by omega
  have n2 : (Value.slice none 0 0).ownBlock ≠ some B := by simp [Value.ownBlock]
  have c0 : w0.cell? ⟨B, 0, none⟩ = some (.int .i64 c.dn) := KB0.cell 0
  have N0 := Lib.hid (word_any h0 c.dn k0 k1 (by simp))
  have B0 := Lib.hid (CB2.out.trans (b0.mono CB2.out.size))
  have AA := Lib.hid KB0
  have HG := Lib.hid (Nat.le_trans CB2.out.size hg)
  clear h0 b0 KB0 KB
  go_wp2_with fail
  refine N0.out.mono ?_
  rintro e w1 ⟨rfl, b1, h1, s1⟩
  have A1 := s1.blk AA.out n1 n2
  have c1 : w1.cell? ⟨B, 1, none⟩ = some (.int .i64 c.ln) := A1.cell 1
  have N1 := Lib.hid (word_any h1 c.ln k2 k3 (by rw [List.length_append, le_len]; simp))
  have S1 := Lib.hid s1
  clear h1 s1 N0 A1 c0
  go_wp2_with fail
  refine N1.out.mono ?_
  rintro e w2 ⟨rfl, b2, h2, s2⟩
  have S2 := Lib.hid (S1.out.trans s2)
  have A2 := S2.out.blk AA.out n1 n2
  have c2 : w2.cell? ⟨B, 2, none⟩ = some (.bool c.kept) := A2.cell 2
  have N2 := Lib.hid (flag_any h2 c.kept (by rw [List.length_append, List.length_append, le_len, le_len]; simp))
  clear h2 s2 N1 A2 c1 S1
  go_wp2_with fail
  refine N2.out.mono ?_
  rintro e w3 ⟨rfl, b3, h3, s3⟩
  have S3 := Lib.hid (S2.out.trans s3)
  have A3 := S3.out.blk AA.out n1 n2
  have c3 : w3.cell? ⟨B, 3, none⟩ = some (.bool c.dh) := A3.cell 3
  have N3 := Lib.hid (flag_any h3 c.dh (by rw [List.length_append, List.length_append, List.length_append, le_len, le_len, le_len]; simp))
  clear h3 s3 N2 A3 c2 S2
  go_wp2_with fail
  refine N3.out.mono ?_
  rintro e w4 ⟨rfl, b4, h4, s4⟩
  have S4 := Lib.hid (S3.out.trans s4)
  have A4 := S4.out.blk AA.out n1 n2
  have c4 : w4.cell? ⟨B, 4, none⟩ = some (.bool c.lh) := A4.cell 4
  have N4 := Lib.hid (flag_any h4 c.lh (by rw [List.length_append, List.length_append, List.length_append, List.length_append, le_len, le_len, le_len, le_len]; simp))
  clear h4 s4 N3 A4 c3 S3
  go_wp2_with fail
  refine N4.out.mono ?_
  rintro e w5 ⟨rfl, b5, h5, s5⟩
  have h5' : Wr w5 gw b5 (ctB c) := by rw [← HB.out]; exact h5
  have S5 := Lib.hid (S4.out.trans s5)
  obtain ⟨b6, _⟩ := S5.out.out B0.out HG.out (fun b h => by simp [Value.ownBlock] at h)
  have B6 := Lib.hid b6
  have DN := Lib.hid (done_any h5' (by intro e; have := CL.out; rw [e] at this; cases this) CB.out (by rw [CL.out]; omega))
  clear h5 h5' s5 N4 c4 S4 b6
  go_wp2_with fail
  refine DN.out.mono ?_
  rintro e w6 ⟨v, rfl, hf, b7⟩
  have HF := Lib.hid (hf.weak B6.out.size)
  have B7 := Lib.hid (B6.out.trans (b7.mono B6.out.size))
  clear hf b7 DN
  go_wp2_with fail
  go_ret
  exact ⟨v, rfl, HF.out, B7.out⟩
end
end Go.Proofs.Ytjhicjmfdcipmaa
