/- save: Flag taken. -/
import Derived.Test.YtjhicjmfdcipmaaSaveK
namespace Go.Proofs.Ytjhicjmfdcipmaa
open Go.RowKit Go.Shelf
set_option linter.unusedVariables false
set_option linter.unusedSimpArgs false
set_option maxRecDepth 100000
section
variable {w : World} {g bg c a : Nat} {bs : List Int}
set_option maxHeartbeats 4000000 in
theorem flagRC (H : Rd w g bg c a bs) (br bv : Nat) (x : Bool) (x0 : Bool) (hx : bs[a]? = some (if x then 1 else 0)) (cr : w.cell? ⟨br, 0, none⟩ = some (rdP g)) (cv : Blk w bv 4 #[.bool x0]) (n1 : bv ≠ g) (n2 : bv ≠ bg) :
    Calls Try.prog 57 #[.pointer (some ⟨br, 0, none⟩), .pointer (some ⟨bv, 0, none⟩)] w fun e w' => e = .returned (.tuple #[]) ∧ DoR w g bg c (a + 1) bs bv 4 (.bool x) w' := by
  have hlen := (List.getElem?_eq_some_iff.1 hx).1
  have TK := Lib.hid (take_any H 1 (by omega) (by omega))
  have hcast : ((1 : Nat) : Int) = 1 := rfl
  rw [hcast] at TK
  have CV := Lib.hid cv
  have HX := Lib.hid hx
  clear H cv hcast hx
  cases x
  all_goals
    go_enter Try.func57, Try.ntmps57
    go_wp2_with fail
    refine TK.out.mono ?_
    rintro e w1 ⟨rfl, h1, u1⟩
    have cb := h1.bytes a _ HX.out
    simp only [Bool.false_eq_true, if_false, if_true] at cb
    have H1 := Lib.hid h1
    have v1 := u1.blk CV.out n1
    have V1 := Lib.hid v1
    have U1 := Lib.hid u1
    have v10 : w1.cell? ⟨bv, 0, none⟩ = some (.bool x0) := v1.cell 0
    have v1f := v1.frozen 0
    clear h1 u1 v1 TK CV
    go_wp2_with fail
    go_end0
    refine ⟨rfl, H1.out.newer (by exact n1) (by exact n2) _, V1.out.set_ 0 _, ?_⟩
    have u := Upd2.ofUpd (v := bv) U1.out
    exact ⟨u.1, u.2.1, u.2.2.1, by simpa [World.setCell] using u.2.2.2.1, fun i hi n m => (Below.heap_setCell _ _ _ _ (by exact m)).trans (u.2.2.2.2 i hi n m)⟩
def ReadF (W : World) (g bg c a' : Nat) (bs : List Int) (x : Bool) (e : Ending) (w' : World) : Prop := e = .returned (.tuple #[.bool x, .int .i64 0]) ∧ Rd w' g bg c a' bs ∧ Upd W g w'
set_option maxHeartbeats 4000000 in
theorem readFlag_any (H : Rd w g bg c a bs) (x : Bool) (hx : bs[a]? = some (if x then 1 else 0)) :
    Calls Try.prog 43 #[rdP g] w (ReadF w g bg c (a + 1) bs x) := by
  have HH := Lib.hid H
  have hlt := H.lt
  have hroom := H.room
  have HX := Lib.hid hx
  clear H hx
  go_enter Try.func43, Try.ntmps43
  go_upto_region 1 with (fail)
  obtain ⟨B, hB⟩ : ∃ B, B = w.heap.size := ⟨_, rfl⟩
  obtain ⟨W2, hW⟩ : ∃ W2, W2 = (w.alloc (.cells #[rdP g] 40)).alloc (.cells #[.bool false] 4) := ⟨_, rfl⟩
  have cb : Below w.heap.size w W2 := by rw [hW]; exact belowA (belowA (Below.refl _ _) _) _
  have k0 : W2.cell? ⟨B, 0, none⟩ = some (rdP g) := by rw [hW, hB]; exact ((Blk.new _ _ _).alloc _).cell 0
  have k2 : Blk W2 (B + 1) 4 #[.bool false] := by
    rw [hW, hB]
    have := Blk.new (w.alloc (.cells #[rdP g] 40)) 4 #[.bool false]
    simpa using this
  have hsz : W2.heap.size = B + 2 := by rw [hW, hB]; simp
  rw [← hW, ← hB]
  have DD := Lib.hid (doesR_any (HH.out.kept cb) 57 #[.pointer (some ⟨B, 0, none⟩), .pointer (some ⟨B + 1, 0, none⟩)] (enters_of Try.func57 (by kernel_rfl) rfl) (B + 1) (a + 1) 4 (.bool x) (by omega)
      (fun w2 hb2 => flagRC ((HH.out.kept cb).kept hb2) B (B + 1) x false HX.out (keepC hb2 k0) (k2.kept hb2) (by omega) (by omega)))
  have CB := Lib.hid cb
  have HBB := Lib.hid hB
  clear hW cb hB k2 hsz HH HX
  go_wp2_with fail
  refine DD.out.mono ?_
  rintro e w3 ⟨rfl, d1, d2, d3⟩
  have D1 := Lib.hid d1
  have D2 := Lib.hid d2
  have U3 := Lib.hid (d3.upd CB.out (by have := HBB.out; omega))
  have c3 : w3.cell? ⟨B + 1, 0, none⟩ = some (.bool x) := d2.cell 0
  have f3 := d2.frozen 0
  have hgB : B + 1 ≠ g := by have := HBB.out; omega
  have hgB2 : B + 1 ≠ bg := by have := HBB.out; omega
  have hw : w.heap.size ≤ B + 1 := by have := HBB.out; omega
  have c4 : (w3.setCell ⟨B + 1, 0, none⟩ (.bool x)).cell? ⟨B + 1, 0, none⟩ = some (.bool x) := World.cell?_setCell_same' _ _ _ (by rw [c3]; rfl)
  clear d1 d2 d3 DD CB HBB
  go_wp2_with fail
  exact bodyPost_ret (v := .tuple #[.bool x, .int .i64 0]) (by simp [results, Try.results43, go_sem, c4]) rfl ⟨rfl, D1.out.newer hgB hgB2 _, U3.out.newer (by exact hw) _⟩
end
end Go.Proofs.Ytjhicjmfdcipmaa
