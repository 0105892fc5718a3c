/- save: Byte taken. save: Word taken. save: Number taken. save: Flag taken. -/
import Derived.Test.YtniagcbajjmopaaGreatSaveJs
import Derived.Test.YtniagcbajjmopaaGreatSaveNs
namespace Go.Proofs.YtniagcbajjmopaaGreat
open Go.RowKit Go.Shelf
set_option linter.unusedVariables false
set_option linter.unusedSimpArgs false
set_option maxRecDepth 100000
section
variable {w : World} {g bg c a : Nat} {bs : List Int}
set_option maxHeartbeats 4000000 in
theorem taken8C (H : Rd w g bg c a bs) (h : a + 1 ≤ bs.length) (br bz bv : Nat) (x0 : Int) (cr : w.cell? ⟨br, 0, none⟩ = some (rdP g)) (cz : w.cell? ⟨bz, 0, none⟩ = some (.int .i64 1)) (cv : Blk w bv 5 #[.int .u8 x0]) (n1 : bv ≠ g) (n2 : bv ≠ bg) :
    Calls Tryz.prog 109 #[.pointer (some ⟨br, 0, none⟩), .pointer (some ⟨bz, 0, none⟩), .pointer (some ⟨bv, 0, none⟩)] w fun e w' => e = .returned (.tuple #[]) ∧ DoR w g bg c (a + 1) bs bv 5 (.int .u8 (num ((bs.drop a).take 1))) w' := by
  have TK := Lib.hid (take_any H 1 (by omega) h)
  have hby : Byts ((bs.drop a).take 1) := fun b hb => H.byts b (List.mem_of_mem_drop (List.mem_of_mem_take hb))
  have hlen : ((bs.drop a).take 1).length = 1 := by rw [List.length_take, List.length_drop]; omega
  have HBY := Lib.hid hby
  have HLEN := Lib.hid hlen
  have CV := Lib.hid cv
  have hcast : ((1 : Nat) : Int) = 1 := rfl
  rw [hcast] at TK
  obtain ⟨x, hx⟩ : ∃ x, num ((bs.drop a).take 1) = x := ⟨_, rfl⟩
  have HX := Lib.hid hx
  rw [hx]
  clear H hby hlen cv hcast hx
  go_enter Tryz.func109, Tryz.ntmps109
  go_wp2_with fail
  refine TK.out.mono ?_
  rintro e w1 ⟨rfl, h1, u1⟩
  have NB := Lib.hid (number8_any w1 bg a (c - a) ((bs.drop a).take 1) HBY.out HLEN.out (fun j u hj => h1.bytes (a + j) u (by
    have hj' : j < 1 := by have := (List.getElem?_eq_some_iff.1 hj).1; rwa [HLEN.out] at this
    rw [List.getElem?_take, if_pos hj', List.getElem?_drop] at hj
    exact hj)))
  have H1 := Lib.hid h1
  have V1 := Lib.hid (u1.blk CV.out n1)
  have U1 := Lib.hid u1
  rw [HX.out] at NB
  clear h1 u1 TK CV HBY HLEN
  go_wp2_with fail
  refine NB.out.mono ?_
  rintro e w2 ⟨rfl, b2⟩
  have H2 := Lib.hid (H1.out.kept b2)
  have v2 := V1.out.kept b2
  have U2 := Lib.hid (U1.out.below b2)
  have V2 := Lib.hid v2
  have v20 : w2.cell? ⟨bv, 0, none⟩ = some (.int .u8 x0) := v2.cell 0
  have v2f := v2.frozen 0
  clear b2 v2 H1 V1 U1 NB
  go_wp2_with fail
  go_end0
  refine ⟨rfl, H2.out.newer (by exact n1) (by exact n2) _, V2.out.set_ 0 _, ?_⟩
  have u := Upd2.ofUpd (v := bv) U2.out
  exact ⟨u.1, u.2.1, u.2.2.1, by simpa [World.setCell] using u.2.2.2.1, fun i hi n m => (Below.heap_setCell _ _ _ _ (by exact m)).trans (u.2.2.2.2 i hi n m)⟩
/-- What was read, and how far the reader has come. -/
def Read8 (W : World) (g bg c a' : Nat) (bs : List Int) (x : Value) (e : Ending) (w' : World) : Prop := e = .returned (.tuple #[x, .int .i64 0]) ∧ Rd w' g bg c a' bs ∧ Upd W g w'
set_option maxHeartbeats 4000000 in
theorem taken8_any (H : Rd w g bg c a bs) (h : a + 1 ≤ bs.length) :
    Calls Tryz.prog 101 #[rdP g, .int .i64 1] w (Read8 w g bg c (a + 1) bs (.int .u8 (num ((bs.drop a).take 1)))) := by
  have HH := Lib.hid H
  have hlt := H.lt
  have hroom := H.room
  clear H
  obtain ⟨x, hx⟩ : ∃ x, num ((bs.drop a).take 1) = x := ⟨_, rfl⟩
  have HX := Lib.hid hx
  rw [hx]
  clear hx
  go_enter Tryz.func101, Tryz.ntmps101
  go_upto_region 1 with (fail)
  obtain ⟨B, hB⟩ : ∃ B, B = w.heap.size := ⟨_, rfl⟩
  obtain ⟨W2, hW⟩ : ∃ W2, W2 = ((w.alloc (.cells #[rdP g] 63)).alloc (.cells #[.int .i64 1] 3)).alloc (.cells #[.int .u8 0] 5) := ⟨_, rfl⟩
  have cb : Below w.heap.size w W2 := by rw [hW]; exact belowA (belowA (belowA (Below.refl _ _) _) _) _
  have k0 : W2.cell? ⟨B, 0, none⟩ = some (rdP g) := by rw [hW, hB]; exact (((Blk.new _ _ _).alloc _).alloc _).cell 0
  have k1 : W2.cell? ⟨B + 1, 0, none⟩ = some (.int .i64 1) := by rw [hW, hB]; simp [go_sem]
  have k2 : Blk W2 (B + 2) 5 #[.int .u8 0] := by
    rw [hW, hB]
    have := Blk.new ((w.alloc (.cells #[rdP g] 63)).alloc (.cells #[.int .i64 1] 3)) 5 #[.int .u8 0]
    simpa using this
  have hsz : W2.heap.size = B + 3 := by rw [hW, hB]; simp
  have ev : B + 1 + 1 = B + 2 := by omega
  rw [← hW, ← hB]
  simp only [ev]
  have DD : Hid (Calls Tryz.prog 102 #[rdP g, .func (.func 109) #[] #[.pointer (some ⟨B, 0, none⟩), .pointer (some ⟨B + 1, 0, none⟩), .pointer (some ⟨B + 2, 0, none⟩)]] W2 fun e w' => e = .returned (.int .i64 0) ∧ DoR W2 g bg c (a + 1) bs (B + 2) 5 (.int .u8 x) w') := Lib.hid (by
    rw [← HX.out]
    exact doesR_any (HH.out.kept cb) 109 #[.pointer (some ⟨B, 0, none⟩), .pointer (some ⟨B + 1, 0, none⟩), .pointer (some ⟨B + 2, 0, none⟩)] (enters_of Tryz.func109 (by kernel_rfl) rfl) (B + 2) (a + 1) 5 _ (by omega)
      (fun w2 hb2 => taken8C ((HH.out.kept cb).kept hb2) h B (B + 1) (B + 2) 0 (keepC hb2 k0) (keepC hb2 k1) (k2.kept hb2) (by omega) (by omega)))
  have CB := Lib.hid cb
  have HBB := Lib.hid hB
  clear hW cb hB k2 hsz HH HX
  go_wp2_with fail
  refine DD.out.mono ?_
  rintro e w3 ⟨rfl, d1, d2, d3⟩
  have D1 := Lib.hid d1
  have D2 := Lib.hid d2
  have U3 := Lib.hid (d3.upd CB.out (by have := HBB.out; omega))
  have c3 : w3.cell? ⟨B + 2, 0, none⟩ = some (.int .u8 x) := d2.cell 0
  have f3 := d2.frozen 0
  have hgB : B + 2 ≠ g := by have := HBB.out; omega
  have hgB2 : B + 2 ≠ bg := by have := HBB.out; omega
  have hw : w.heap.size ≤ B + 2 := by have := HBB.out; omega
  have c4 : (w3.setCell ⟨B + 2, 0, none⟩ (.int .u8 x)).cell? ⟨B + 2, 0, none⟩ = some (.int .u8 x) := World.cell?_setCell_same' _ _ _ (by rw [c3]; rfl)
  clear d1 d2 d3 DD CB HBB
  go_wp2_with fail
  exact bodyPost_ret (v := .tuple #[.int .u8 x, .int .i64 0]) (by simp [results, Tryz.results101, go_sem, c4]) rfl ⟨rfl, D1.out.newer hgB hgB2 _, U3.out.newer (by exact hw) _⟩
set_option maxHeartbeats 4000000 in
theorem readByte_any (H : Rd w g bg c a bs) (h : a + 1 ≤ bs.length) :
    Calls Tryz.prog 92 #[rdP g] w (Read8 w g bg c (a + 1) bs (.int .u8 (num ((bs.drop a).take 1)))) := by
  have TT := Lib.hid (taken8_any H h)
  obtain ⟨x, hx⟩ : ∃ x, num ((bs.drop a).take 1) = x := ⟨_, rfl⟩
  rw [hx] at TT ⊢
  clear H hx
  go_enter Tryz.func92, Tryz.ntmps92
  go_wp2_with fail
  refine TT.out.mono ?_
  rintro e w2 ⟨rfl, d1, d2⟩
  have D1 := Lib.hid d1
  have D2 := Lib.hid d2
  clear d1 d2 TT
  go_wp2_with fail
  go_ret2
  exact ⟨rfl, D1.out, D2.out⟩
end
end Go.Proofs.YtniagcbajjmopaaGreat

namespace Go.Proofs.YtniagcbajjmopaaGreat
open Go.RowKit Go.Shelf
set_option linter.unusedVariables false
set_option linter.unusedSimpArgs false
set_option maxRecDepth 100000
section
variable {w : World} {g bg c a : Nat} {bs : List Int}
set_option maxHeartbeats 4000000 in
theorem taken16C (H : Rd w g bg c a bs) (h : a + 2 ≤ bs.length) (br bz bv : Nat) (x0 : Int) (cr : w.cell? ⟨br, 0, none⟩ = some (rdP g)) (cz : w.cell? ⟨bz, 0, none⟩ = some (.int .i64 2)) (cv : Blk w bv 25 #[.int .u16 x0]) (n1 : bv ≠ g) (n2 : bv ≠ bg) :
    Calls Tryz.prog 107 #[.pointer (some ⟨br, 0, none⟩), .pointer (some ⟨bz, 0, none⟩), .pointer (some ⟨bv, 0, none⟩)] w fun e w' => e = .returned (.tuple #[]) ∧ DoR w g bg c (a + 2) bs bv 25 (.int .u16 (num ((bs.drop a).take 2))) w' := by
  have TK := Lib.hid (take_any H 2 (by omega) h)
  have hby : Byts ((bs.drop a).take 2) := fun b hb => H.byts b (List.mem_of_mem_drop (List.mem_of_mem_take hb))
  have hlen : ((bs.drop a).take 2).length = 2 := by rw [List.length_take, List.length_drop]; omega
  have HBY := Lib.hid hby
  have HLEN := Lib.hid hlen
  have CV := Lib.hid cv
  have hcast : ((2 : Nat) : Int) = 2 := rfl
  rw [hcast] at TK
  obtain ⟨x, hx⟩ : ∃ x, num ((bs.drop a).take 2) = x := ⟨_, rfl⟩
  have HX := Lib.hid hx
  rw [hx]
  clear H hby hlen cv hcast hx
  go_enter Tryz.func107, Tryz.ntmps107
  go_wp2_with fail
  refine TK.out.mono ?_
  rintro e w1 ⟨rfl, h1, u1⟩
  have NB := Lib.hid (number16_any w1 bg a (c - a) ((bs.drop a).take 2) HBY.out HLEN.out (fun j u hj => h1.bytes (a + j) u (by
    have hj' : j < 2 := by have := (List.getElem?_eq_some_iff.1 hj).1; rwa [HLEN.out] at this
    rw [List.getElem?_take, if_pos hj', List.getElem?_drop] at hj
    exact hj)))
  have H1 := Lib.hid h1
  have V1 := Lib.hid (u1.blk CV.out n1)
  have U1 := Lib.hid u1
  rw [HX.out] at NB
  clear h1 u1 TK CV HBY HLEN
  go_wp2_with fail
  refine NB.out.mono ?_
  rintro e w2 ⟨rfl, b2⟩
  have H2 := Lib.hid (H1.out.kept b2)
  have v2 := V1.out.kept b2
  have U2 := Lib.hid (U1.out.below b2)
  have V2 := Lib.hid v2
  have v20 : w2.cell? ⟨bv, 0, none⟩ = some (.int .u16 x0) := v2.cell 0
  have v2f := v2.frozen 0
  clear b2 v2 H1 V1 U1 NB
  go_wp2_with fail
  go_end0
  refine ⟨rfl, H2.out.newer (by exact n1) (by exact n2) _, V2.out.set_ 0 _, ?_⟩
  have u := Upd2.ofUpd (v := bv) U2.out
  exact ⟨u.1, u.2.1, u.2.2.1, by simpa [World.setCell] using u.2.2.2.1, fun i hi n m => (Below.heap_setCell _ _ _ _ (by exact m)).trans (u.2.2.2.2 i hi n m)⟩
/-- What was read, and how far the reader has come. -/
def Read16 (W : World) (g bg c a' : Nat) (bs : List Int) (x : Value) (e : Ending) (w' : World) : Prop := e = .returned (.tuple #[x, .int .i64 0]) ∧ Rd w' g bg c a' bs ∧ Upd W g w'
set_option maxHeartbeats 4000000 in
theorem taken16_any (H : Rd w g bg c a bs) (h : a + 2 ≤ bs.length) :
    Calls Tryz.prog 100 #[rdP g, .int .i64 2] w (Read16 w g bg c (a + 2) bs (.int .u16 (num ((bs.drop a).take 2)))) := by
  have HH := Lib.hid H
  have hlt := H.lt
  have hroom := H.room
  clear H
  obtain ⟨x, hx⟩ : ∃ x, num ((bs.drop a).take 2) = x := ⟨_, rfl⟩
  have HX := Lib.hid hx
  rw [hx]
  clear hx
  go_enter Tryz.func100, Tryz.ntmps100
  go_upto_region 1 with (fail)
  obtain ⟨B, hB⟩ : ∃ B, B = w.heap.size := ⟨_, rfl⟩
  obtain ⟨W2, hW⟩ : ∃ W2, W2 = ((w.alloc (.cells #[rdP g] 63)).alloc (.cells #[.int .i64 2] 3)).alloc (.cells #[.int .u16 0] 25) := ⟨_, rfl⟩
  have cb : Below w.heap.size w W2 := by rw [hW]; exact belowA (belowA (belowA (Below.refl _ _) _) _) _
  have k0 : W2.cell? ⟨B, 0, none⟩ = some (rdP g) := by rw [hW, hB]; exact (((Blk.new _ _ _).alloc _).alloc _).cell 0
  have k1 : W2.cell? ⟨B + 1, 0, none⟩ = some (.int .i64 2) := by rw [hW, hB]; simp [go_sem]
  have k2 : Blk W2 (B + 2) 25 #[.int .u16 0] := by
    rw [hW, hB]
    have := Blk.new ((w.alloc (.cells #[rdP g] 63)).alloc (.cells #[.int .i64 2] 3)) 25 #[.int .u16 0]
    simpa using this
  have hsz : W2.heap.size = B + 3 := by rw [hW, hB]; simp
  have ev : B + 1 + 1 = B + 2 := by omega
  rw [← hW, ← hB]
  simp only [ev]
  have DD : Hid (Calls Tryz.prog 102 #[rdP g, .func (.func 107) #[] #[.pointer (some ⟨B, 0, none⟩), .pointer (some ⟨B + 1, 0, none⟩), .pointer (some ⟨B + 2, 0, none⟩)]] W2 fun e w' => e = .returned (.int .i64 0) ∧ DoR W2 g bg c (a + 2) bs (B + 2) 25 (.int .u16 x) w') := Lib.hid (by
    rw [← HX.out]
    exact doesR_any (HH.out.kept cb) 107 #[.pointer (some ⟨B, 0, none⟩), .pointer (some ⟨B + 1, 0, none⟩), .pointer (some ⟨B + 2, 0, none⟩)] (enters_of Tryz.func107 (by kernel_rfl) rfl) (B + 2) (a + 2) 25 _ (by omega)
      (fun w2 hb2 => taken16C ((HH.out.kept cb).kept hb2) h B (B + 1) (B + 2) 0 (keepC hb2 k0) (keepC hb2 k1) (k2.kept hb2) (by omega) (by omega)))
  have CB := Lib.hid cb
  have HBB := Lib.hid hB
  clear hW cb hB k2 hsz HH HX
  go_wp2_with fail
  refine DD.out.mono ?_
  rintro e w3 ⟨rfl, d1, d2, d3⟩
  have D1 := Lib.hid d1
  have D2 := Lib.hid d2
  have U3 := Lib.hid (d3.upd CB.out (by have := HBB.out; omega))
  have c3 : w3.cell? ⟨B + 2, 0, none⟩ = some (.int .u16 x) := d2.cell 0
  have f3 := d2.frozen 0
  have hgB : B + 2 ≠ g := by have := HBB.out; omega
  have hgB2 : B + 2 ≠ bg := by have := HBB.out; omega
  have hw : w.heap.size ≤ B + 2 := by have := HBB.out; omega
  have c4 : (w3.setCell ⟨B + 2, 0, none⟩ (.int .u16 x)).cell? ⟨B + 2, 0, none⟩ = some (.int .u16 x) := World.cell?_setCell_same' _ _ _ (by rw [c3]; rfl)
  clear d1 d2 d3 DD CB HBB
  go_wp2_with fail
  exact bodyPost_ret (v := .tuple #[.int .u16 x, .int .i64 0]) (by simp [results, Tryz.results100, go_sem, c4]) rfl ⟨rfl, D1.out.newer hgB hgB2 _, U3.out.newer (by exact hw) _⟩
set_option maxHeartbeats 4000000 in
theorem readWord_any (H : Rd w g bg c a bs) (h : a + 2 ≤ bs.length) :
    Calls Tryz.prog 90 #[rdP g] w (Read16 w g bg c (a + 2) bs (.int .u16 (num ((bs.drop a).take 2)))) := by
  have TT := Lib.hid (taken16_any H h)
  obtain ⟨x, hx⟩ : ∃ x, num ((bs.drop a).take 2) = x := ⟨_, rfl⟩
  rw [hx] at TT ⊢
  clear H hx
  go_enter Tryz.func90, Tryz.ntmps90
  go_wp2_with fail
  refine TT.out.mono ?_
  rintro e w2 ⟨rfl, d1, d2⟩
  have D1 := Lib.hid d1
  have D2 := Lib.hid d2
  clear d1 d2 TT
  go_wp2_with fail
  go_ret2
  exact ⟨rfl, D1.out, D2.out⟩
end
end Go.Proofs.YtniagcbajjmopaaGreat

namespace Go.Proofs.YtniagcbajjmopaaGreat
open Go.RowKit Go.Shelf
set_option linter.unusedVariables false
set_option linter.unusedSimpArgs false
set_option maxRecDepth 100000
section
variable {w : World} {g bg c a : Nat} {bs : List Int}
set_option maxHeartbeats 4000000 in
theorem taken64C (H : Rd w g bg c a bs) (h : a + 8 ≤ bs.length) (br bz bv : Nat) (x0 : Int) (cr : w.cell? ⟨br, 0, none⟩ = some (rdP g)) (cz : w.cell? ⟨bz, 0, none⟩ = some (.int .i64 8)) (cv : Blk w bv 109 #[.int .u64 x0]) (n1 : bv ≠ g) (n2 : bv ≠ bg) :
    Calls Tryz.prog 105 #[.pointer (some ⟨br, 0, none⟩), .pointer (some ⟨bz, 0, none⟩), .pointer (some ⟨bv, 0, none⟩)] w fun e w' => e = .returned (.tuple #[]) ∧ DoR w g bg c (a + 8) bs bv 109 (.int .u64 (num ((bs.drop a).take 8))) w' := by
  have TK := Lib.hid (take_any H 8 (by omega) h)
  have hby : Byts ((bs.drop a).take 8) := fun b hb => H.byts b (List.mem_of_mem_drop (List.mem_of_mem_take hb))
  have hlen : ((bs.drop a).take 8).length = 8 := by rw [List.length_take, List.length_drop]; omega
  have HBY := Lib.hid hby
  have HLEN := Lib.hid hlen
  have CV := Lib.hid cv
  have hcast : ((8 : Nat) : Int) = 8 := rfl
  rw [hcast] at TK
  obtain ⟨x, hx⟩ : ∃ x, num ((bs.drop a).take 8) = x := ⟨_, rfl⟩
  have HX := Lib.hid hx
  rw [hx]
  clear H hby hlen cv hcast hx
  go_enter Tryz.func105, Tryz.ntmps105
  go_wp2_with fail
  refine TK.out.mono ?_
  rintro e w1 ⟨rfl, h1, u1⟩
  have NB := Lib.hid (number64_any w1 bg a (c - a) ((bs.drop a).take 8) HBY.out HLEN.out (fun j u hj => h1.bytes (a + j) u (by
    have hj' : j < 8 := by have := (List.getElem?_eq_some_iff.1 hj).1; rwa [HLEN.out] at this
    rw [List.getElem?_take, if_pos hj', List.getElem?_drop] at hj
    exact hj)))
  have H1 := Lib.hid h1
  have V1 := Lib.hid (u1.blk CV.out n1)
  have U1 := Lib.hid u1
  rw [HX.out] at NB
  clear h1 u1 TK CV HBY HLEN
  go_wp2_with fail
  refine NB.out.mono ?_
  rintro e w2 ⟨rfl, b2⟩
  have H2 := Lib.hid (H1.out.kept b2)
  have v2 := V1.out.kept b2
  have U2 := Lib.hid (U1.out.below b2)
  have V2 := Lib.hid v2
  have v20 : w2.cell? ⟨bv, 0, none⟩ = some (.int .u64 x0) := v2.cell 0
  have v2f := v2.frozen 0
  clear b2 v2 H1 V1 U1 NB
  go_wp2_with fail
  go_end0
  refine ⟨rfl, H2.out.newer (by exact n1) (by exact n2) _, V2.out.set_ 0 _, ?_⟩
  have u := Upd2.ofUpd (v := bv) U2.out
  exact ⟨u.1, u.2.1, u.2.2.1, by simpa [World.setCell] using u.2.2.2.1, fun i hi n m => (Below.heap_setCell _ _ _ _ (by exact m)).trans (u.2.2.2.2 i hi n m)⟩
/-- What was read, and how far the reader has come. -/
def Read64 (W : World) (g bg c a' : Nat) (bs : List Int) (x : Value) (e : Ending) (w' : World) : Prop := e = .returned (.tuple #[x, .int .i64 0]) ∧ Rd w' g bg c a' bs ∧ Upd W g w'
set_option maxHeartbeats 4000000 in
theorem taken64_any (H : Rd w g bg c a bs) (h : a + 8 ≤ bs.length) :
    Calls Tryz.prog 99 #[rdP g, .int .i64 8] w (Read64 w g bg c (a + 8) bs (.int .u64 (num ((bs.drop a).take 8)))) := by
  have HH := Lib.hid H
  have hlt := H.lt
  have hroom := H.room
  clear H
  obtain ⟨x, hx⟩ : ∃ x, num ((bs.drop a).take 8) = x := ⟨_, rfl⟩
  have HX := Lib.hid hx
  rw [hx]
  clear hx
  go_enter Tryz.func99, Tryz.ntmps99
  go_upto_region 1 with (fail)
  obtain ⟨B, hB⟩ : ∃ B, B = w.heap.size := ⟨_, rfl⟩
  obtain ⟨W2, hW⟩ : ∃ W2, W2 = ((w.alloc (.cells #[rdP g] 63)).alloc (.cells #[.int .i64 8] 3)).alloc (.cells #[.int .u64 0] 109) := ⟨_, rfl⟩
  have cb : Below w.heap.size w W2 := by rw [hW]; exact belowA (belowA (belowA (Below.refl _ _) _) _) _
  have k0 : W2.cell? ⟨B, 0, none⟩ = some (rdP g) := by rw [hW, hB]; exact (((Blk.new _ _ _).alloc _).alloc _).cell 0
  have k1 : W2.cell? ⟨B + 1, 0, none⟩ = some (.int .i64 8) := by rw [hW, hB]; simp [go_sem]
  have k2 : Blk W2 (B + 2) 109 #[.int .u64 0] := by
    rw [hW, hB]
    have := Blk.new ((w.alloc (.cells #[rdP g] 63)).alloc (.cells #[.int .i64 8] 3)) 109 #[.int .u64 0]
    simpa using this
  have hsz : W2.heap.size = B + 3 := by rw [hW, hB]; simp
  have ev : B + 1 + 1 = B + 2 := by omega
  rw [← hW, ← hB]
  simp only [ev]
  have DD : Hid (Calls Tryz.prog 102 #[rdP g, .func (.func 105) #[] #[.pointer (some ⟨B, 0, none⟩), .pointer (some ⟨B + 1, 0, none⟩), .pointer (some ⟨B + 2, 0, none⟩)]] W2 fun e w' => e = .returned (.int .i64 0) ∧ DoR W2 g bg c (a + 8) bs (B + 2) 109 (.int .u64 x) w') := Lib.hid (by
    rw [← HX.out]
    exact doesR_any (HH.out.kept cb) 105 #[.pointer (some ⟨B, 0, none⟩), .pointer (some ⟨B + 1, 0, none⟩), .pointer (some ⟨B + 2, 0, none⟩)] (enters_of Tryz.func105 (by kernel_rfl) rfl) (B + 2) (a + 8) 109 _ (by omega)
      (fun w2 hb2 => taken64C ((HH.out.kept cb).kept hb2) h B (B + 1) (B + 2) 0 (keepC hb2 k0) (keepC hb2 k1) (k2.kept hb2) (by omega) (by omega)))
  have CB := Lib.hid cb
  have HBB := Lib.hid hB
  clear hW cb hB k2 hsz HH HX
  go_wp2_with fail
  refine DD.out.mono ?_
  rintro e w3 ⟨rfl, d1, d2, d3⟩
  have D1 := Lib.hid d1
  have D2 := Lib.hid d2
  have U3 := Lib.hid (d3.upd CB.out (by have := HBB.out; omega))
  have c3 : w3.cell? ⟨B + 2, 0, none⟩ = some (.int .u64 x) := d2.cell 0
  have f3 := d2.frozen 0
  have hgB : B + 2 ≠ g := by have := HBB.out; omega
  have hgB2 : B + 2 ≠ bg := by have := HBB.out; omega
  have hw : w.heap.size ≤ B + 2 := by have := HBB.out; omega
  have c4 : (w3.setCell ⟨B + 2, 0, none⟩ (.int .u64 x)).cell? ⟨B + 2, 0, none⟩ = some (.int .u64 x) := World.cell?_setCell_same' _ _ _ (by rw [c3]; rfl)
  clear d1 d2 d3 DD CB HBB
  go_wp2_with fail
  exact bodyPost_ret (v := .tuple #[.int .u64 x, .int .i64 0]) (by simp [results, Tryz.results99, go_sem, c4]) rfl ⟨rfl, D1.out.newer hgB hgB2 _, U3.out.newer (by exact hw) _⟩
set_option maxHeartbeats 4000000 in
theorem readNumber_any (H : Rd w g bg c a bs) (h : a + 8 ≤ bs.length) :
    Calls Tryz.prog 88 #[rdP g] w (Read64 w g bg c (a + 8) bs (.int .i64 (IntKind.i64.wrap (num ((bs.drop a).take 8))))) := by
  have TT := Lib.hid (taken64_any H h)
  obtain ⟨x, hx⟩ : ∃ x, num ((bs.drop a).take 8) = x := ⟨_, rfl⟩
  rw [hx] at TT ⊢
  clear H hx
  go_enter Tryz.func88, Tryz.ntmps88
  go_wp2_with fail
  refine TT.out.mono ?_
  rintro e w2 ⟨rfl, d1, d2⟩
  have D1 := Lib.hid d1
  have D2 := Lib.hid d2
  clear d1 d2 TT
  go_wp2_with fail
  go_ret2
  exact ⟨by first | rfl | (simp [wrap64, IntKind.wrap_i64]), D1.out, D2.out⟩
end
end Go.Proofs.YtniagcbajjmopaaGreat

namespace Go.Proofs.YtniagcbajjmopaaGreat
open Go.RowKit Go.Shelf
set_option linter.unusedVariables false
set_option linter.unusedSimpArgs false
set_option maxRecDepth 100000
section
variable {w : World} {g bg c a : Nat} {bs : List Int}
set_option maxHeartbeats 4000000 in
theorem flagRC (H : Rd w g bg c a bs) (br bv : Nat) (x : Bool) (x0 : Bool) (hx : bs[a]? = some (if x then 1 else 0)) (cr : w.cell? ⟨br, 0, none⟩ = some (rdP g)) (cv : Blk w bv 4 #[.bool x0]) (n1 : bv ≠ g) (n2 : bv ≠ bg) :
    Calls Tryz.prog 103 #[.pointer (some ⟨br, 0, none⟩), .pointer (some ⟨bv, 0, none⟩)] w fun e w' => e = .returned (.tuple #[]) ∧ DoR w g bg c (a + 1) bs bv 4 (.bool x) w' := by
  have hlen := (List.getElem?_eq_some_iff.1 hx).1
  have TK := Lib.hid (take_any H 1 (by omega) (by omega))
  have hcast : ((1 : Nat) : Int) = 1 := rfl
  rw [hcast] at TK
  have CV := Lib.hid cv
  have HX := Lib.hid hx
  clear H cv hcast hx
  cases x
  all_goals
    go_enter Tryz.func103, Tryz.ntmps103
    go_wp2_with fail
    refine TK.out.mono ?_
    rintro e w1 ⟨rfl, h1, u1⟩
    have cb := h1.bytes a _ HX.out
    simp only [Bool.false_eq_true, if_false, if_true] at cb
    have H1 := Lib.hid h1
    have v1 := u1.blk CV.out n1
    have V1 := Lib.hid v1
    have U1 := Lib.hid u1
    have v10 : w1.cell? ⟨bv, 0, none⟩ = some (.bool x0) := v1.cell 0
    have v1f := v1.frozen 0
    clear h1 u1 v1 TK CV
    go_wp2_with fail
    go_end0
    refine ⟨rfl, H1.out.newer (by exact n1) (by exact n2) _, V1.out.set_ 0 _, ?_⟩
    have u := Upd2.ofUpd (v := bv) U1.out
    exact ⟨u.1, u.2.1, u.2.2.1, by simpa [World.setCell] using u.2.2.2.1, fun i hi n m => (Below.heap_setCell _ _ _ _ (by exact m)).trans (u.2.2.2.2 i hi n m)⟩
def ReadF (W : World) (g bg c a' : Nat) (bs : List Int) (x : Bool) (e : Ending) (w' : World) : Prop := e = .returned (.tuple #[.bool x, .int .i64 0]) ∧ Rd w' g bg c a' bs ∧ Upd W g w'
set_option maxHeartbeats 4000000 in
theorem readFlag_any (H : Rd w g bg c a bs) (x : Bool) (hx : bs[a]? = some (if x then 1 else 0)) :
    Calls Tryz.prog 94 #[rdP g] w (ReadF w g bg c (a + 1) bs x) := by
  have HH := Lib.hid H
  have hlt := H.lt
  have hroom := H.room
  have HX := Lib.hid hx
  clear H hx
  go_enter Tryz.func94, Tryz.ntmps94
  go_upto_region 1 with (fail)
  obtain ⟨B, hB⟩ : ∃ B, B = w.heap.size := ⟨_, rfl⟩
  obtain ⟨W2, hW⟩ : ∃ W2, W2 = (w.alloc (.cells #[rdP g] 63)).alloc (.cells #[.bool false] 4) := ⟨_, rfl⟩
  have cb : Below w.heap.size w W2 := by rw [hW]; exact belowA (belowA (Below.refl _ _) _) _
  have k0 : W2.cell? ⟨B, 0, none⟩ = some (rdP g) := by rw [hW, hB]; exact ((Blk.new _ _ _).alloc _).cell 0
  have k2 : Blk W2 (B + 1) 4 #[.bool false] := by
    rw [hW, hB]
    have := Blk.new (w.alloc (.cells #[rdP g] 63)) 4 #[.bool false]
    simpa using this
  have hsz : W2.heap.size = B + 2 := by rw [hW, hB]; simp
  rw [← hW, ← hB]
  have DD := Lib.hid (doesR_any (HH.out.kept cb) 103 #[.pointer (some ⟨B, 0, none⟩), .pointer (some ⟨B + 1, 0, none⟩)] (enters_of Tryz.func103 (by kernel_rfl) rfl) (B + 1) (a + 1) 4 (.bool x) (by omega)
      (fun w2 hb2 => flagRC ((HH.out.kept cb).kept hb2) B (B + 1) x false HX.out (keepC hb2 k0) (k2.kept hb2) (by omega) (by omega)))
  have CB := Lib.hid cb
  have HBB := Lib.hid hB
  clear hW cb hB k2 hsz HH HX
  go_wp2_with fail
  refine DD.out.mono ?_
  rintro e w3 ⟨rfl, d1, d2, d3⟩
  have D1 := Lib.hid d1
  have D2 := Lib.hid d2
  have U3 := Lib.hid (d3.upd CB.out (by have := HBB.out; omega))
  have c3 : w3.cell? ⟨B + 1, 0, none⟩ = some (.bool x) := d2.cell 0
  have f3 := d2.frozen 0
  have hgB : B + 1 ≠ g := by have := HBB.out; omega
  have hgB2 : B + 1 ≠ bg := by have := HBB.out; omega
  have hw : w.heap.size ≤ B + 1 := by have := HBB.out; omega
  have c4 : (w3.setCell ⟨B + 1, 0, none⟩ (.bool x)).cell? ⟨B + 1, 0, none⟩ = some (.bool x) := World.cell?_setCell_same' _ _ _ (by rw [c3]; rfl)
  clear d1 d2 d3 DD CB HBB
  go_wp2_with fail
  exact bodyPost_ret (v := .tuple #[.bool x, .int .i64 0]) (by simp [results, Tryz.results94, go_sem, c4]) rfl ⟨rfl, D1.out.newer hgB hgB2 _, U3.out.newer (by exact hw) _⟩
end
end Go.Proofs.YtniagcbajjmopaaGreat
