/- ports: Load, and whether a state can be. -/
import Derived.Test.YtniagcbajjmopaaGreatPortsX
import Derived.Test.YtniagcbajjmopaaGreatRowSt
namespace Go.Proofs.YtniagcbajjmopaaGreat
open Go.RowKit
set_option linter.unusedVariables false
set_option linter.unusedSimpArgs false
set_option maxRecDepth 100000
/-- Can a state be? -/
def canP (s : Pt) : Bool := decide (0 ≤ s.now ∧ s.now ≤ 281474976710656 ∧ 0 ≤ s.busy ∧ s.busy ≤ s.now + 4224 ∧ s.dot < 512 ∧ s.line < 512)
theorem can_no {s : Pt} (h : canP s = false) : s.now < 0 ∨ (0 ≤ s.now ∧ 281474976710656 < s.now) ∨ (0 ≤ s.now ∧ s.now ≤ 281474976710656 ∧ s.busy < 0) ∨ (0 ≤ s.now ∧ s.now ≤ 281474976710656 ∧ 0 ≤ s.busy ∧ s.now + 4224 < s.busy) ∨
    (0 ≤ s.now ∧ s.now ≤ 281474976710656 ∧ 0 ≤ s.busy ∧ s.busy ≤ s.now + 4224 ∧ 511 < s.dot) ∨ (0 ≤ s.now ∧ s.now ≤ 281474976710656 ∧ 0 ≤ s.busy ∧ s.busy ≤ s.now + 4224 ∧ s.dot ≤ 511 ∧ 511 < s.line) := by
  unfold canP at h
  have := of_decide_eq_false h
  omega
theorem can_yes {s : Pt} (h : canP s = true) : 0 ≤ s.now ∧ s.now ≤ 281474976710656 ∧ 0 ≤ s.busy ∧ s.busy ≤ s.now + 4224 ∧ s.dot ≤ 511 ∧ s.line ≤ 511 := by
  unfold canP at h
  have := of_decide_eq_true h
  omega
def LoadPo (W : World) (g gr bg cc : Nat) (old s : Pt) (e : Ending) (w' : World) : Prop :=
  e = .returned (.int .i64 (if canP s then 0 else 250)) ∧ Po w' g (if canP s then { s with soon := 0 } else old) ∧ Rd w' gr bg cc 47 (portB s) ∧ Upd2 W gr g w'
theorem cs_one (s : Pt) : s.cs.all (·.oneCell') = true := by simp [Pt.cs, Value.oneCell']
section
variable {w : World} {g gr bg cc : Nat} {old s : Pt}
set_option maxHeartbeats 16000000 in
theorem loadPo_any (A : Po w g old) (R : Rng s) (I : I64 s) (H : Rd w gr bg cc 0 (portB s)) (n1 : g ≠ gr) (n2 : g ≠ bg) :
    Calls Tryz.prog 49 #[poP g, rdP gr] w (LoadPo w g gr bg cc old s) := by
  have hg := A.lt
  have hgr := H.lt
  have hbg := H.room
  have AA := Lib.hid A
  have HH := Lib.hid H
  clear A H
  have GO : Hid (∀ (cn : Bool), canP s = cn → (cn = true ∨ cn = false)) := Lib.hid (fun cn _ => by cases cn <;> simp)
  obtain ⟨cn, hcn⟩ : ∃ cn, canP s = cn := ⟨_, rfl⟩
  have CN := Lib.hid hcn
  have hways : (0 ≤ s.now ∧ s.now ≤ 281474976710656 ∧ 0 ≤ s.busy ∧ s.busy ≤ s.now + 4224 ∧ s.dot ≤ 511 ∧ s.line ≤ 511 ∧ Hid (cn = true)) ∨ (s.now < 0 ∧ Hid (cn = false)) ∨ (0 ≤ s.now ∧ 281474976710656 < s.now ∧ Hid (cn = false)) ∨ (0 ≤ s.now ∧ s.now ≤ 281474976710656 ∧ s.busy < 0 ∧ Hid (cn = false)) ∨ (0 ≤ s.now ∧ s.now ≤ 281474976710656 ∧ 0 ≤ s.busy ∧ s.now + 4224 < s.busy ∧ Hid (cn = false)) ∨
      (0 ≤ s.now ∧ s.now ≤ 281474976710656 ∧ 0 ≤ s.busy ∧ s.busy ≤ s.now + 4224 ∧ 511 < s.dot ∧ Hid (cn = false)) ∨ (0 ≤ s.now ∧ s.now ≤ 281474976710656 ∧ 0 ≤ s.busy ∧ s.busy ≤ s.now + 4224 ∧ s.dot ≤ 511 ∧ 511 < s.line ∧ Hid (cn = false)) := by
    cases cn with
    | true => obtain ⟨a, b, c, d, e, f⟩ := can_yes hcn; exact Or.inl ⟨a, b, c, d, e, f, Lib.hid rfl⟩
    | false =>
      have F : Hid (false = false) := Lib.hid rfl
      rcases can_no hcn with h | ⟨h1, h2⟩ | ⟨h1, h2, h3⟩ | ⟨h1, h2, h3, h4⟩ | ⟨h1, h2, h3, h4, h5⟩ | ⟨h1, h2, h3, h4, h5, h6⟩
      · exact Or.inr (Or.inl ⟨h, F⟩)
      · exact Or.inr (Or.inr (Or.inl ⟨h1, h2, F⟩))
      · exact Or.inr (Or.inr (Or.inr (Or.inl ⟨h1, h2, h3, F⟩)))
      · exact Or.inr (Or.inr (Or.inr (Or.inr (Or.inl ⟨h1, h2, h3, h4, F⟩))))
      · exact Or.inr (Or.inr (Or.inr (Or.inr (Or.inr (Or.inl ⟨h1, h2, h3, h4, h5, F⟩)))))
      · exact Or.inr (Or.inr (Or.inr (Or.inr (Or.inr (Or.inr ⟨h1, h2, h3, h4, h5, h6, F⟩)))))
  have HWY := Lib.hid hways
  clear hways hcn GO
  go_enter Tryz.func49, Tryz.ntmps49
  try simp only [List.append_eq, List.cons_append, List.nil_append]
  go_upto_region 4 with (fail)
  obtain ⟨W2, hW⟩ : ∃ W2, W2 = w.alloc (.cells Pt.zero.cs 48) := ⟨_, rfl⟩
  obtain ⟨B, hB⟩ : ∃ B, B = w.heap.size := ⟨_, rfl⟩
  have cb : Below w.heap.size w W2 := by rw [hW]; exact belowA (Below.refl _ _) _
  have k : Po W2 B Pt.zero := by rw [hW, hB]; exact Blk.new _ _ _
  have hW' : w.alloc (.cells #[.int .i64 0, .int .i64 0, .int .u8 0, .int .u8 0, .int .u8 0, .int .u16 0, .int .u16 0, .int .u16 0, .int .u16 0, .int .u16 0, .bool false, .bool false, .bool false, .int .u16 0, .int .u16 0, .int .u16 0, .int .u16 0, .int .u16 0, .int .u16 0, .bool false, .bool false, .bool false, .int .i64 0] 48) = W2 := by rw [hW]; rfl
  rw [hW', ← hB]
  have TK := Lib.hid (takePo_any k R I (HH.out.kept cb) (by omega) (by omega))
  have A2 := Lib.hid (AA.out.kept cb)
  have CB := Lib.hid cb
  have HBB := Lib.hid hB
  have nBg : B ≠ g := by omega
  clear hW hW' cb k AA HH hB
  go_wp2_with fail
  refine TK.out.mono ?_
  rintro e w3 ⟨rfl, k3, h3, u3⟩
  have e0 : w3.cell? ⟨B, 0, none⟩ = some (.int .i64 s.now) := k3.cell 0
  have e1 : w3.cell? ⟨B, 1, none⟩ = some (.int .i64 s.busy) := k3.cell 1
  have e8 : w3.cell? ⟨B, 8, none⟩ = some (.int .u16 s.dot) := k3.cell 8
  have e9 : w3.cell? ⟨B, 9, none⟩ = some (.int .u16 s.line) := k3.cell 9
  have G3 : Hid (Po w3 g old) := Lib.hid ((u3.2.2.2.2 g A2.out.lt n1 (fun e => nBg e.symm)).trans A2.out)
  have U3 := Lib.hid (u3.upd CB.out (by rw [HBB.out]; exact Nat.le_refl _))
  have H3 := Lib.hid h3
  have FIN : Hid (∀ w', Upd w3 g w' → Upd2 w gr g w') := Lib.hid (fun w' u => (Upd2.ofUpd (v := g) U3.out).trans ⟨u.os, u.tape, u.output, u.size, fun i hi _ m => u.block i hi m⟩)
  have hi : (Tryz.prog.info? 48).map (·.size) = some ({ s with soon := 0 } : Pt).cs.size := by kernel_rfl
  have hst := run_storeCells_row (P := Tryz.prog) w3 g 48 old.cs ({ s with soon := 0 } : Pt).cs G3.out hi rfl (cs_one _)
  have hB3 : w3.heap[B]? = some (.cells ({ s with soon := 0 } : Pt).cs 48 (0, 0)) := k3
  obtain ⟨cs, hcs⟩ : ∃ cs, ({ s with soon := 0 } : Pt).cs = cs := ⟨_, rfl⟩
  have HCS := Lib.hid hcs
  rw [hcs] at hi hst hB3
  have hs23 : cs.size = 23 := by rw [← hcs]; rfl
  have HI := Lib.hid hi
  have HB3 := Lib.hid hB3
  have ROWG : Hid (Blk (w3.setRow g cs) g 48 cs) := Lib.hid (G3.out.row cs)
  have H3R : Hid (Rd (w3.setRow g cs) gr bg cc 47 (portB s)) := Lib.hid (H3.out.upd (Upd.ofRow w3 g cs) n1 n2)
  have FINR := Lib.hid (FIN.out _ (Upd.ofRow w3 g cs))
  have FIN0 := Lib.hid (FIN.out _ (Upd.refl w3 g))
  clear TK A2 CB HBB k3 h3 u3 U3 hcs hi hB3 FIN
  obtain ⟨nw, hnw⟩ : ∃ nw, s.now = nw := ⟨_, rfl⟩
  obtain ⟨bz, hbz⟩ : ∃ bz, s.busy = bz := ⟨_, rfl⟩
  obtain ⟨dt, hdt⟩ : ∃ dt, s.dot = dt := ⟨_, rfl⟩
  obtain ⟨ln, hln⟩ : ∃ ln, s.line = ln := ⟨_, rfl⟩
  rw [hnw] at e0 HWY
  rw [hbz] at e1 HWY
  rw [hdt] at e8 HWY
  rw [hln] at e9 HWY
  clear hnw hbz hdt hln
  rcases HWY.out with ⟨q1, q2, q3, q4, q5, q6, C⟩ | ⟨q1, C⟩ | ⟨q1, q2, C⟩ | ⟨q1, q2, q3, C⟩ | ⟨q1, q2, q3, q4, C⟩ | ⟨q1, q2, q3, q4, q5, C⟩ | ⟨q1, q2, q3, q4, q5, q6, C⟩
  · have wr : IntKind.i64.wrap (nw + 4224) = nw + 4224 := by rw [IntKind.wrap_i64]; omega
    clear HWY
    go_wp2_with (first | (refine wpList_load_row rfl 48 (.tmp 5) rfl B rfl 48 cs (0, 0) _ HB3.out Tryz.underlying48 rfl HI.out ?_))
    go_ret
    have ct : canP s = true := CN.out.trans C.out
    refine ⟨by rw [ct]; rfl, ?_, H3R.out, FINR.out⟩
    rw [ct]
    show Blk _ g _ ({ s with soon := 0 } : Pt).cs
    rw [HCS.out]
    exact ROWG.out
  all_goals
    try have wr : IntKind.i64.wrap (nw + 4224) = nw + 4224 := by rw [IntKind.wrap_i64]; omega
    clear HWY
    go_wp2_with fail
    go_ret
    have ct : canP s = false := CN.out.trans C.out
    exact ⟨by rw [ct]; rfl, by rw [ct]; exact G3.out, H3.out, FIN0.out⟩
end
end Go.Proofs.YtniagcbajjmopaaGreat
