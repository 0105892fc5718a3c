/- dma: Load. -/
import Derived.Test.YtkeikkkcmackeaaDmaX
import Derived.Test.YtkeikkkcmackeaaSaveRs
import Derived.Test.YtkeikkkcmackeaaBigRows
namespace Go.Proofs.Ytkeikkkcmackeaa
open Go.RowKit
set_option linter.unusedVariables false
set_option linter.unusedSimpArgs false
set_option maxRecDepth 100000
def tlF (r : Nat → Int) (k : Nat) : Nat → Int := fun j => if 96 ≤ j ∧ j < 96 + k then r j else 0
theorem tlF_rng {r : Nat → Int} (h : Rng r) (k : Nat) : Rng (tlF r k) := by
  intro j
  unfold tlF
  split
  · exact h j
  · omega
theorem all_is (r : Nat → Int) (j : Nat) (hj : j < 104) : mixF r (tlF r 8) 96 j = r j := by
  unfold mixF tlF
  by_cases h : j < 96
  · rw [if_pos h]
  · rw [if_neg h, if_pos (by omega)]
theorem canD_is (r : Nat → Int) : canD (mixF r (tlF r 8) 96) = canD r := by
  have e : canP (mixF r (tlF r 8) 96) ↔ canP r := by
    unfold canP
    rw [all_is r 96 (by omega), all_is r 97 (by omega), all_is r 100 (by omega), all_is r 101 (by omega), all_is r 102 (by omega), all_is r 103 (by omega)]
  exact decide_eq_decide.mpr e
theorem dmB_row (r : Nat → Int) : ((dmB r).drop 4).take 96 = rowF r 0 96 := by
  unfold dmB
  rw [List.append_assoc, List.drop_left' (le_len 4 96), List.take_left' (rowF_len r 0 96)]
theorem dmB_num (r : Nat → Int) : num (((dmB r).drop 0).take 4) = (96 : Nat) := by
  have e : ((dmB r).drop 0).take 4 = le 4 96 := by
    unfold dmB
    rw [List.drop_zero, List.append_assoc, List.take_left' (le_len 4 96)]
  rw [e]
  exact num_le 4 96 (by omega) (by decide)
theorem dmB_tail (r : Nat → Int) (k : Nat) (hk : k < 8) : ((dmB r).drop (100 + k)).take 1 = [r (96 + k)] := by
  have e : (dmB r).drop (100 + k) = (rowF r 96 8).drop k := by
    unfold dmB
    rw [← List.drop_drop, List.drop_left' (by rw [List.length_append, le_len, rowF_len])]
  have l : k < (rowF r 96 8).length := by rw [rowF_len]; exact hk
  rw [e, List.drop_eq_getElem_cons l]
  simp [rowF]
theorem num_one (x : Int) (h0 : 0 ≤ x) (h1 : x ≤ 255) : num [x] = x := by rw [← le1 x h0 h1]; exact num_le 1 x h0 (by simpa using (by omega : x < 256))
def LoadDa (W : World) (g gr bg cc : Nat) (old r : Nat → Int) (e : Ending) (w' : World) : Prop :=
  e = .returned (.int .i64 (if canD r then 0 else 260)) ∧ Da w' g (if canD r then r else old) ∧ Rd w' gr bg cc 108 (dmB r) ∧ Upd2 W gr g w'
section
variable {w : World} {g gr bg cc : Nat} {old r : Nat → Int}
set_option maxHeartbeats 16000000 in
theorem loadDa_any (A : Da w g old) (R : Rng r) (H : Rd w gr bg cc 0 (dmB r)) (n1 : g ≠ gr) (n2 : g ≠ bg) :
    Calls Try.prog 32 #[at_ g 0, rdP gr] w (LoadDa w g gr bg cc old r) := by
  have hg := A.lt
  have hgr := H.lt
  have hbg := H.room
  have AA := Lib.hid A
  have HH := Lib.hid H
  have RR := Lib.hid R
  clear A H R
  go_enter Try.func32, Try.ntmps32
  try simp only [List.append_eq, List.cons_append, List.nil_append]
  go_upto_region 4 with (fail)
  obtain ⟨W2, hW⟩ : ∃ W2, W2 = w.alloc (.cells (Array.replicate 104 (.int .u8 0)) 71) := ⟨_, rfl⟩
  obtain ⟨B, hB⟩ : ∃ B, B = w.heap.size := ⟨_, rfl⟩
  have cb : Below w.heap.size w W2 := by rw [hW]; exact belowA (Below.refl _ _) _
  have k : Da W2 B (fun _ => 0) := by rw [hW, hB]; exact ⟨Array.replicate 104 (.int .u8 0), Blk.new _ _ _, by simp, fun j hj => by simp [hj]⟩
  have hW' : w.alloc (.cells Try.zeroCells71 71) = W2 := by rw [hW]; rfl
  have hsz2 : W2.heap.size = B + 1 := by rw [hW, hB]; simp
  rw [hW', ← hB]
  have RB := Lib.hid (readBytes_any (HH.out.kept cb) 96 1024 (by omega) (by omega) (dmB_num r) (by rw [dmB_len]; omega))
  rw [show 0 + 4 = 4 by rfl, dmB_row] at RB
  have A2 := Lib.hid (AA.out.kept cb)
  have K2 := Lib.hid k
  have CB := Lib.hid cb
  have nBg : B ≠ g := by omega
  have nBr : B ≠ gr := by omega
  have nBb : B ≠ bg := by omega
  have HBB := Lib.hid hB
  clear hW hW' cb k AA HH hB
  go_wp2_with fail
  refine RB.out.mono ?_
  rintro e w3 ⟨x, rfl, hx, h3, u3⟩
  obtain ⟨gb, cx, rfl, hgb, hcx, hat⟩ := hx.at2 (by intro e; have := rowF_len r 0 96; rw [e] at this; cases this)
  rw [rowF_len] at hcx
  have RW := Lib.hid (rowF_len r 0 96)
  have AT : Hid (∀ j, j < 96 → w3.cell? ⟨gb, j, none⟩ = some (.int .u8 (r j))) := Lib.hid (fun j hj => hat j _ (by simp [rowF, hj]))
  have K3 := Lib.hid (Da.old K2.out (u3.block B K2.out.lt nBr))
  have A3 := Lib.hid (Da.old A2.out (u3.block g A2.out.lt n1))
  have H3 := Lib.hid h3
  have U3 : Hid (Upd w gr w3) := Lib.hid ((Upd.ofBelow CB.out gr).trans u3)
  have hz3 := u3.size
  have ngb : gb ≠ B := by have := HBB.out; omega
  have ngr : gb ≠ gr := by have := HBB.out; omega
  rw [rowF_len]
  clear hx h3 u3 hat RB K2 A2 RW
  go_wp2_with fail
  refine (bytesP_any _ B).mono ?_
  rintro e w4 ⟨rfl, b4⟩
  have K4 := Lib.hid (K3.out.kept b4)
  have A4 := Lib.hid (A3.out.kept b4)
  have H4 := Lib.hid (H3.out.kept b4)
  have U4 := Lib.hid (U3.out.below b4)
  have AT4 : Hid (∀ j, j < 96 → w4.cell? ⟨gb, j, none⟩ = some (.int .u8 (r j))) := Lib.hid (fun j hj => keepC b4 (AT.out j hj))
  clear b4 K3 A3 H3 U3 AT
  go_wp2_with fail
  go_loopw [23] (fun i wr => ∃ k : Nat, k ≤ 8 ∧ i = .int .i64 k ∧ Da wr B (tlF r k) ∧ Rd wr gr bg cc (100 + k) (dmB r) ∧ Upd2 w4 gr B wr) (fun i _ => 8 - (intOf i).toNat)
  case atStart => exact ⟨0, by omega, rfl, K4.out.congr (fun j _ => by simp [tlF]; omega), H4.out, Upd2.ofBelow (Below.refl _ _) _ _⟩
  case round =>
    obtain ⟨k, hk, rfl, ha, hr, hu⟩ := hrel
    have HA := Lib.hid ha
    have HR := Lib.hid hr
    have HU := Lib.hid hu
    clear ha hr hu
    by_cases hlt : k < 8
    · have hidx := bytes_idx B k hlt wr
      have ho : bytesO.getD k 0 = 96 + k := by
        rcases (show k = 0 ∨ k = 1 ∨ k = 2 ∨ k = 3 ∨ k = 4 ∨ k = 5 ∨ k = 6 ∨ k = 7 by omega) with rfl | rfl | rfl | rfl | rfl | rfl | rfl | rfl
        all_goals rfl
      rw [ho] at hidx
      have BY := Lib.hid (readByte_any HR.out (by rw [dmB_len]; omega))
      rw [dmB_tail r k hlt, num_one _ (RR.out _).1 (RR.out _).2] at BY
      clear ho
      go_wp2_with fail
      refine BY.out.mono ?_
      rintro e w5 ⟨rfl, h5, u5⟩
      have K5 := Da.old HA.out (u5.block B HA.out.lt nBr)
      have hcell := K5.cell (j := 96 + k) (by omega)
      have hfro := K5.frozen (96 + k)
      have KK5 := Lib.hid K5
      have H5 := Lib.hid h5
      have U5 := Lib.hid (HU.out.trans (Upd2.ofUpd (v := B) u5))
      obtain ⟨y, hy⟩ : ∃ y, r (96 + k) = y := ⟨_, rfl⟩
      have HY := Lib.hid hy
      rw [hy]
      clear K5 h5 u5 BY HA HR HU hy
      go_wp2_with fail
      go_roundw
      case rel => exact ⟨k + 1, by omega, by go_num, (KK5.out.set (by omega) y).congr (fun j hj => by
          show (if j = 96 + k then y else tlF r k j) = tlF r (k + 1) j
          unfold tlF
          by_cases e : j = 96 + k
          · subst e; rw [if_pos rfl, if_pos (by omega)]; exact HY.out.symm
          · rw [if_neg e]
            by_cases e2 : 96 ≤ j ∧ j < 96 + k
            · rw [if_pos e2, if_pos (by omega)]
            · rw [if_neg e2, if_neg (by omega)]), H5.out.newer nBr nBb _, U5.out.trans ⟨rfl, rfl, rfl, by simp [World.setCell], fun i hi n m => Below.heap_setCell _ _ _ _ m⟩⟩
      case measure => simp [intOf]; omega
    · have hk8 : k = 8 := by omega
      subst hk8
      have AG := Lib.hid (Da.old A4.out (HU.out.2.2.2.2 g A4.out.lt n1 (fun e => nBg e.symm)))
      have gl : gb < w4.heap.size := World.block_lt_of_cell? _ _ (AT4.out 0 (by omega))
      have ATW : Hid (∀ j, j < 96 → wr.cell? ⟨gb, j, none⟩ = some (.int .u8 (r j))) := Lib.hid (fun j hj => (World.cell?_of_block (HU.out.2.2.2.2 gb gl ngr ngb)).trans (AT4.out j hj))
      have CW := Lib.hid (canWith_any HA.out RR.out (tlF_rng RR.out 8) gb cx hcx ATW.out ngb)
      rw [canD_is] at CW
      obtain ⟨cn, hcn⟩ : ∃ cn, canD r = cn := ⟨_, rfl⟩
      rw [hcn] at CW
      have HCN := Lib.hid hcn
      clear hcn AT4 ATW gl
      go_wp2_with fail
      refine CW.out.mono ?_
      rintro e w6 ⟨rfl, k6, u6⟩
      have D6 : Hid (Da w6 B r) := Lib.hid (k6.congr (fun j hj => all_is r j hj))
      have G6 := Lib.hid (Da.old AG.out (u6.block g AG.out.lt (fun e => nBg e.symm)))
      have H6 : Hid (Rd w6 gr bg cc 108 (dmB r)) := Lib.hid (HR.out.upd u6 nBr nBb)
      have U6 : Hid (Upd2 w gr g w6) := Lib.hid (by
        have t : Upd2 w4 gr B w6 := HU.out.trans ⟨u6.os, u6.tape, u6.output, u6.size, fun i hi _ m => u6.block i hi m⟩
        exact ⟨t.1.trans U4.out.os, t.2.1.trans U4.out.tape, t.2.2.1.trans U4.out.output, Nat.le_trans U4.out.size t.2.2.2.1, fun i hi n m => (t.2.2.2.2 i (Nat.lt_of_lt_of_le hi U4.out.size) n (by have := HBB.out; omega)).trans (U4.out.block i hi n)⟩)
      clear k6 u6 CW AG HA HR HU U4 A4
      cases cn with
      | false =>
        go_wp2_with fail
        go_ret
        exact ⟨by rw [HCN.out]; rfl, by rw [HCN.out]; exact G6.out, H6.out, U6.out⟩
      | true =>
        obtain ⟨vs, hvs⟩ : ∃ vs, (List.range' 0 104).map (fun j => Value.int .u8 (r j)) = vs := ⟨_, rfl⟩
        have hlen : vs.length = 104 := by rw [← hvs]; simp
        have hone : ∀ v ∈ vs, v.oneCell' = true := by
          intro v hv
          rw [← hvs, List.mem_map] at hv
          obtain ⟨j, _, rfl⟩ := hv
          rfl
        have hseen : ∀ j v, vs[j]? = some v → w6.cell? ⟨B, j, none⟩ = some v := by
          intro j v hj
          have hj4 : j < 104 := by have := (List.getElem?_eq_some_iff.1 hj).1; omega
          rw [← hvs, List.getElem?_map, List.getElem?_range' (by omega)] at hj
          simp at hj
          subst hj
          exact D6.out.cell hj4
        have GS : Hid (Da (w6.setCells g 0 vs) g r) := Lib.hid (by
          rw [← hvs]
          exact (Arr.cells r 104 0 G6.out (by omega)).congr (fun j hj => by rw [if_pos (by omega)]))
        have US : Hid (Upd w6 g (w6.setCells g 0 vs)) := Lib.hid (Upd.cells vs 0 (Upd.refl _ _))
        have hst := run_storeCells_cells (P := Try.prog) g 0 vs 0 w6 (fun j hj => by rw [show 0 + 0 + j = j by omega, G6.out.cell (by omega)]; rfl) (fun j hj => G6.out.frozen _) hone
        obtain ⟨cs, hcs⟩ : ∃ cs : Array Value, cs = vs.toArray := ⟨_, rfl⟩
        have hcl : cs.toList = vs := by rw [hcs]
        have hs104 : cs.size = 104 := by rw [hcs]; simpa using hlen
        have HC : Hid (∀ j v, cs[j]? = some v → w6.cell? ⟨B, j, none⟩ = some v) := Lib.hid (fun j v hj => hseen j v (by rw [hcs] at hj; simpa using hj))
        have HI : Hid ((Try.prog.info? 71).map (·.size) = some cs.size) := Lib.hid (by rw [hs104]; kernel_rfl)
        rw [← hcl] at hst
        obtain ⟨W7, hW7⟩ : ∃ W7, w6.setCells g (0 + 0) cs.toList = W7 := ⟨_, rfl⟩
        rw [hW7] at hst
        rw [Nat.zero_add, hcl] at hW7
        rw [hW7] at GS US
        clear hvs hlen hone hseen hcs hcl hW7
        go_wp2_with (first | (refine wpList_load_seen rfl 71 (.tmp 5) rfl B rfl cs _ HC.out Try.underlying71 rfl HI.out ?_))
        go_ret
        have u := US.out
        exact ⟨by rw [HCN.out]; rfl, by rw [HCN.out]; exact GS.out, H6.out.upd u n1 n2, U6.out.trans ⟨u.os, u.tape, u.output, u.size, fun i hi _ m => u.block i hi m⟩⟩
end
end Go.Proofs.Ytkeikkkcmackeaa
