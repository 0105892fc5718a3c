/- save: Byte taken. -/
import Derived.Test.YtkeikkkcmackeaaSaveK
import Derived.Test.YtkeikkkcmackeaaSaveN8
namespace Go.Proofs.Ytkeikkkcmackeaa
open Go.RowKit Go.Shelf
set_option linter.unusedVariables false
set_option linter.unusedSimpArgs false
set_option maxRecDepth 100000
section
variable {w : World} {g bg c a : Nat} {bs : List Int}
set_option maxHeartbeats 4000000 in
theorem taken8C (H : Rd w g bg c a bs) (h : a + 1 ≤ bs.length) (br bz bv : Nat) (x0 : Int) (cr : w.cell? ⟨br, 0, none⟩ = some (rdP g)) (cz : w.cell? ⟨bz, 0, none⟩ = some (.int .i64 1)) (cv : Blk w bv 5 #[.int .u8 x0]) (n1 : bv ≠ g) (n2 : bv ≠ bg) :
    Calls Try.prog 93 #[.pointer (some ⟨br, 0, none⟩), .pointer (some ⟨bz, 0, none⟩), .pointer (some ⟨bv, 0, none⟩)] w fun e w' => e = .returned (.tuple #[]) ∧ DoR w g bg c (a + 1) bs bv 5 (.int .u8 (num ((bs.drop a).take 1))) w' := by
  have TK := Lib.hid (take_any H 1 (by omega) h)
  have hby : Byts ((bs.drop a).take 1) := fun b hb => H.byts b (List.mem_of_mem_drop (List.mem_of_mem_take hb))
  have hlen : ((bs.drop a).take 1).length = 1 := by rw [List.length_take, List.length_drop]; omega
  have HBY := Lib.hid hby
  have HLEN := Lib.hid hlen
  have CV := Lib.hid cv
  have hcast : ((1 : Nat) : Int) = 1 := rfl
  rw [hcast] at TK
  obtain ⟨x, hx⟩ : ∃ x, num ((bs.drop a).take 1) = x := ⟨_, rfl⟩
  have HX := Lib.hid hx
  rw [hx]
  clear H hby hlen cv hcast hx
  go_enter Try.func93, Try.ntmps93
  go_wp2_with fail
  refine TK.out.mono ?_
  rintro e w1 ⟨rfl, h1, u1⟩
  have NB := Lib.hid (number8_any w1 bg a (c - a) ((bs.drop a).take 1) HBY.out HLEN.out (fun j u hj => h1.bytes (a + j) u (by
    have hj' : j < 1 := by have := (List.getElem?_eq_some_iff.1 hj).1; rwa [HLEN.out] at this
    rw [List.getElem?_take, if_pos hj', List.getElem?_drop] at hj
    exact hj)))
  have H1 := Lib.hid h1
  have V1 := Lib.hid (u1.blk CV.out n1)
  have U1 := Lib.hid u1
  rw [HX.out] at NB
  clear h1 u1 TK CV HBY HLEN
  go_wp2_with fail
  refine NB.out.mono ?_
  rintro e w2 ⟨rfl, b2⟩
  have H2 := Lib.hid (H1.out.kept b2)
  have v2 := V1.out.kept b2
  have U2 := Lib.hid (U1.out.below b2)
  have V2 := Lib.hid v2
  have v20 : w2.cell? ⟨bv, 0, none⟩ = some (.int .u8 x0) := v2.cell 0
  have v2f := v2.frozen 0
  clear b2 v2 H1 V1 U1 NB
  go_wp2_with fail
  go_end0
  refine ⟨rfl, H2.out.newer (by exact n1) (by exact n2) _, V2.out.set_ 0 _, ?_⟩
  have u := Upd2.ofUpd (v := bv) U2.out
  exact ⟨u.1, u.2.1, u.2.2.1, by simpa [World.setCell] using u.2.2.2.1, fun i hi n m => (Below.heap_setCell _ _ _ _ (by exact m)).trans (u.2.2.2.2 i hi n m)⟩
/-- What was read, and how far the reader has come. -/
def Read8 (W : World) (g bg c a' : Nat) (bs : List Int) (x : Value) (e : Ending) (w' : World) : Prop := e = .returned (.tuple #[x, .int .i64 0]) ∧ Rd w' g bg c a' bs ∧ Upd W g w'
set_option maxHeartbeats 4000000 in
theorem taken8_any (H : Rd w g bg c a bs) (h : a + 1 ≤ bs.length) :
    Calls Try.prog 87 #[rdP g, .int .i64 1] w (Read8 w g bg c (a + 1) bs (.int .u8 (num ((bs.drop a).take 1)))) := by
  have HH := Lib.hid H
  have hlt := H.lt
  have hroom := H.room
  clear H
  obtain ⟨x, hx⟩ : ∃ x, num ((bs.drop a).take 1) = x := ⟨_, rfl⟩
  have HX := Lib.hid hx
  rw [hx]
  clear hx
  go_enter Try.func87, Try.ntmps87
  go_upto_region 1 with (fail)
  obtain ⟨B, hB⟩ : ∃ B, B = w.heap.size := ⟨_, rfl⟩
  obtain ⟨W2, hW⟩ : ∃ W2, W2 = ((w.alloc (.cells #[rdP g] 62)).alloc (.cells #[.int .i64 1] 3)).alloc (.cells #[.int .u8 0] 5) := ⟨_, rfl⟩
  have cb : Below w.heap.size w W2 := by rw [hW]; exact belowA (belowA (belowA (Below.refl _ _) _) _) _
  have k0 : W2.cell? ⟨B, 0, none⟩ = some (rdP g) := by rw [hW, hB]; exact (((Blk.new _ _ _).alloc _).alloc _).cell 0
  have k1 : W2.cell? ⟨B + 1, 0, none⟩ = some (.int .i64 1) := by rw [hW, hB]; simp [go_sem]
  have k2 : Blk W2 (B + 2) 5 #[.int .u8 0] := by
    rw [hW, hB]
    have := Blk.new ((w.alloc (.cells #[rdP g] 62)).alloc (.cells #[.int .i64 1] 3)) 5 #[.int .u8 0]
    simpa using this
  have hsz : W2.heap.size = B + 3 := by rw [hW, hB]; simp
  have ev : B + 1 + 1 = B + 2 := by omega
  rw [← hW, ← hB]
  simp only [ev]
  have DD : Hid (Calls Try.prog 84 #[rdP g, .func (.func 93) #[] #[.pointer (some ⟨B, 0, none⟩), .pointer (some ⟨B + 1, 0, none⟩), .pointer (some ⟨B + 2, 0, none⟩)]] W2 fun e w' => e = .returned (.int .i64 0) ∧ DoR W2 g bg c (a + 1) bs (B + 2) 5 (.int .u8 x) w') := Lib.hid (by
    rw [← HX.out]
    exact doesR_any (HH.out.kept cb) 93 #[.pointer (some ⟨B, 0, none⟩), .pointer (some ⟨B + 1, 0, none⟩), .pointer (some ⟨B + 2, 0, none⟩)] (enters_of Try.func93 (by kernel_rfl) rfl) (B + 2) (a + 1) 5 _ (by omega)
      (fun w2 hb2 => taken8C ((HH.out.kept cb).kept hb2) h B (B + 1) (B + 2) 0 (keepC hb2 k0) (keepC hb2 k1) (k2.kept hb2) (by omega) (by omega)))
  have CB := Lib.hid cb
  have HBB := Lib.hid hB
  clear hW cb hB k2 hsz HH HX
  go_wp2_with fail
  refine DD.out.mono ?_
  rintro e w3 ⟨rfl, d1, d2, d3⟩
  have D1 := Lib.hid d1
  have D2 := Lib.hid d2
  have U3 := Lib.hid (d3.upd CB.out (by have := HBB.out; omega))
  have c3 : w3.cell? ⟨B + 2, 0, none⟩ = some (.int .u8 x) := d2.cell 0
  have f3 := d2.frozen 0
  have hgB : B + 2 ≠ g := by have := HBB.out; omega
  have hgB2 : B + 2 ≠ bg := by have := HBB.out; omega
  have hw : w.heap.size ≤ B + 2 := by have := HBB.out; omega
  have c4 : (w3.setCell ⟨B + 2, 0, none⟩ (.int .u8 x)).cell? ⟨B + 2, 0, none⟩ = some (.int .u8 x) := World.cell?_setCell_same' _ _ _ (by rw [c3]; rfl)
  clear d1 d2 d3 DD CB HBB
  go_wp2_with fail
  exact bodyPost_ret (v := .tuple #[.int .u8 x, .int .i64 0]) (by simp [results, Try.results87, go_sem, c4]) rfl ⟨rfl, D1.out.newer hgB hgB2 _, U3.out.newer (by exact hw) _⟩
set_option maxHeartbeats 4000000 in
theorem readByte_any (H : Rd w g bg c a bs) (h : a + 1 ≤ bs.length) :
    Calls Try.prog 65 #[rdP g] w (Read8 w g bg c (a + 1) bs (.int .u8 (num ((bs.drop a).take 1)))) := by
  have TT := Lib.hid (taken8_any H h)
  obtain ⟨x, hx⟩ : ∃ x, num ((bs.drop a).take 1) = x := ⟨_, rfl⟩
  rw [hx] at TT ⊢
  clear H hx
  go_enter Try.func65, Try.ntmps65
  go_wp2_with fail
  refine TT.out.mono ?_
  rintro e w2 ⟨rfl, d1, d2⟩
  have D1 := Lib.hid d1
  have D2 := Lib.hid d2
  clear d1 d2 TT
  go_wp2_with fail
  go_ret2
  exact ⟨rfl, D1.out, D2.out⟩
end
end Go.Proofs.Ytkeikkkcmackeaa
