/- save: Byte taken. save: Bytes taken. -/
import Derived.Test.YtkeikkkcmackeaaSaveJs
import Derived.Test.YtkeikkkcmackeaaSaveNs
namespace Go.Proofs.Ytkeikkkcmackeaa
open Go.RowKit Go.Shelf
set_option linter.unusedVariables false
set_option linter.unusedSimpArgs false
set_option maxRecDepth 100000
section
variable {w : World} {g bg c a : Nat} {bs : List Int}
set_option maxHeartbeats 4000000 in
theorem taken8C (H : Rd w g bg c a bs) (h : a + 1 ≤ bs.length) (br bz bv : Nat) (x0 : Int) (cr : w.cell? ⟨br, 0, none⟩ = some (rdP g)) (cz : w.cell? ⟨bz, 0, none⟩ = some (.int .i64 1)) (cv : Blk w bv 5 #[.int .u8 x0]) (n1 : bv ≠ g) (n2 : bv ≠ bg) :
    Calls Try.prog 93 #[.pointer (some ⟨br, 0, none⟩), .pointer (some ⟨bz, 0, none⟩), .pointer (some ⟨bv, 0, none⟩)] w fun e w' => e = .returned (.tuple #[]) ∧ DoR w g bg c (a + 1) bs bv 5 (.int .u8 (num ((bs.drop a).take 1))) w' := by
  have TK := Lib.hid (take_any H 1 (by omega) h)
  have hby : Byts ((bs.drop a).take 1) := fun b hb => H.byts b (List.mem_of_mem_drop (List.mem_of_mem_take hb))
  have hlen : ((bs.drop a).take 1).length = 1 := by rw [List.length_take, List.length_drop]; omega
  have HBY := Lib.hid hby
  have HLEN := Lib.hid hlen
  have CV := Lib.hid cv
  have hcast : ((1 : Nat) : Int) = 1 := rfl
  rw [hcast] at TK
  obtain ⟨x, hx⟩ : ∃ x, num ((bs.drop a).take 1) = x := ⟨_, rfl⟩
  have HX := Lib.hid hx
  rw [hx]
  clear H hby hlen cv hcast hx
  go_enter Try.func93, Try.ntmps93
  go_wp2_with fail
  refine TK.out.mono ?_
  rintro e w1 ⟨rfl, h1, u1⟩
  have NB := Lib.hid (number8_any w1 bg a (c - a) ((bs.drop a).take 1) HBY.out HLEN.out (fun j u hj => h1.bytes (a + j) u (by
    have hj' : j < 1 := by have := (List.getElem?_eq_some_iff.1 hj).1; rwa [HLEN.out] at this
    rw [List.getElem?_take, if_pos hj', List.getElem?_drop] at hj
    exact hj)))
  have H1 := Lib.hid h1
  have V1 := Lib.hid (u1.blk CV.out n1)
  have U1 := Lib.hid u1
  rw [HX.out] at NB
  clear h1 u1 TK CV HBY HLEN
  go_wp2_with fail
  refine NB.out.mono ?_
  rintro e w2 ⟨rfl, b2⟩
  have H2 := Lib.hid (H1.out.kept b2)
  have v2 := V1.out.kept b2
  have U2 := Lib.hid (U1.out.below b2)
  have V2 := Lib.hid v2
  have v20 : w2.cell? ⟨bv, 0, none⟩ = some (.int .u8 x0) := v2.cell 0
  have v2f := v2.frozen 0
  clear b2 v2 H1 V1 U1 NB
  go_wp2_with fail
  go_end0
  refine ⟨rfl, H2.out.newer (by exact n1) (by exact n2) _, V2.out.set_ 0 _, ?_⟩
  have u := Upd2.ofUpd (v := bv) U2.out
  exact ⟨u.1, u.2.1, u.2.2.1, by simpa [World.setCell] using u.2.2.2.1, fun i hi n m => (Below.heap_setCell _ _ _ _ (by exact m)).trans (u.2.2.2.2 i hi n m)⟩
/-- What was read, and how far the reader has come. -/
def Read8 (W : World) (g bg c a' : Nat) (bs : List Int) (x : Value) (e : Ending) (w' : World) : Prop := e = .returned (.tuple #[x, .int .i64 0]) ∧ Rd w' g bg c a' bs ∧ Upd W g w'
set_option maxHeartbeats 4000000 in
theorem taken8_any (H : Rd w g bg c a bs) (h : a + 1 ≤ bs.length) :
    Calls Try.prog 87 #[rdP g, .int .i64 1] w (Read8 w g bg c (a + 1) bs (.int .u8 (num ((bs.drop a).take 1)))) := by
  have HH := Lib.hid H
  have hlt := H.lt
  have hroom := H.room
  clear H
  obtain ⟨x, hx⟩ : ∃ x, num ((bs.drop a).take 1) = x := ⟨_, rfl⟩
  have HX := Lib.hid hx
  rw [hx]
  clear hx
  go_enter Try.func87, Try.ntmps87
  go_upto_region 1 with (fail)
  obtain ⟨B, hB⟩ : ∃ B, B = w.heap.size := ⟨_, rfl⟩
  obtain ⟨W2, hW⟩ : ∃ W2, W2 = ((w.alloc (.cells #[rdP g] 62)).alloc (.cells #[.int .i64 1] 3)).alloc (.cells #[.int .u8 0] 5) := ⟨_, rfl⟩
  have cb : Below w.heap.size w W2 := by rw [hW]; exact belowA (belowA (belowA (Below.refl _ _) _) _) _
  have k0 : W2.cell? ⟨B, 0, none⟩ = some (rdP g) := by rw [hW, hB]; exact (((Blk.new _ _ _).alloc _).alloc _).cell 0
  have k1 : W2.cell? ⟨B + 1, 0, none⟩ = some (.int .i64 1) := by rw [hW, hB]; simp [go_sem]
  have k2 : Blk W2 (B + 2) 5 #[.int .u8 0] := by
    rw [hW, hB]
    have := Blk.new ((w.alloc (.cells #[rdP g] 62)).alloc (.cells #[.int .i64 1] 3)) 5 #[.int .u8 0]
    simpa using this
  have hsz : W2.heap.size = B + 3 := by rw [hW, hB]; simp
  have ev : B + 1 + 1 = B + 2 := by omega
  rw [← hW, ← hB]
  simp only [ev]
  have DD : Hid (Calls Try.prog 84 #[rdP g, .func (.func 93) #[] #[.pointer (some ⟨B, 0, none⟩), .pointer (some ⟨B + 1, 0, none⟩), .pointer (some ⟨B + 2, 0, none⟩)]] W2 fun e w' => e = .returned (.int .i64 0) ∧ DoR W2 g bg c (a + 1) bs (B + 2) 5 (.int .u8 x) w') := Lib.hid (by
    rw [← HX.out]
    exact doesR_any (HH.out.kept cb) 93 #[.pointer (some ⟨B, 0, none⟩), .pointer (some ⟨B + 1, 0, none⟩), .pointer (some ⟨B + 2, 0, none⟩)] (enters_of Try.func93 (by kernel_rfl) rfl) (B + 2) (a + 1) 5 _ (by omega)
      (fun w2 hb2 => taken8C ((HH.out.kept cb).kept hb2) h B (B + 1) (B + 2) 0 (keepC hb2 k0) (keepC hb2 k1) (k2.kept hb2) (by omega) (by omega)))
  have CB := Lib.hid cb
  have HBB := Lib.hid hB
  clear hW cb hB k2 hsz HH HX
  go_wp2_with fail
  refine DD.out.mono ?_
  rintro e w3 ⟨rfl, d1, d2, d3⟩
  have D1 := Lib.hid d1
  have D2 := Lib.hid d2
  have U3 := Lib.hid (d3.upd CB.out (by have := HBB.out; omega))
  have c3 : w3.cell? ⟨B + 2, 0, none⟩ = some (.int .u8 x) := d2.cell 0
  have f3 := d2.frozen 0
  have hgB : B + 2 ≠ g := by have := HBB.out; omega
  have hgB2 : B + 2 ≠ bg := by have := HBB.out; omega
  have hw : w.heap.size ≤ B + 2 := by have := HBB.out; omega
  have c4 : (w3.setCell ⟨B + 2, 0, none⟩ (.int .u8 x)).cell? ⟨B + 2, 0, none⟩ = some (.int .u8 x) := World.cell?_setCell_same' _ _ _ (by rw [c3]; rfl)
  clear d1 d2 d3 DD CB HBB
  go_wp2_with fail
  exact bodyPost_ret (v := .tuple #[.int .u8 x, .int .i64 0]) (by simp [results, Try.results87, go_sem, c4]) rfl ⟨rfl, D1.out.newer hgB hgB2 _, U3.out.newer (by exact hw) _⟩
set_option maxHeartbeats 4000000 in
theorem readByte_any (H : Rd w g bg c a bs) (h : a + 1 ≤ bs.length) :
    Calls Try.prog 65 #[rdP g] w (Read8 w g bg c (a + 1) bs (.int .u8 (num ((bs.drop a).take 1)))) := by
  have TT := Lib.hid (taken8_any H h)
  obtain ⟨x, hx⟩ : ∃ x, num ((bs.drop a).take 1) = x := ⟨_, rfl⟩
  rw [hx] at TT ⊢
  clear H hx
  go_enter Try.func65, Try.ntmps65
  go_wp2_with fail
  refine TT.out.mono ?_
  rintro e w2 ⟨rfl, d1, d2⟩
  have D1 := Lib.hid d1
  have D2 := Lib.hid d2
  clear d1 d2 TT
  go_wp2_with fail
  go_ret2
  exact ⟨rfl, D1.out, D2.out⟩
end
end Go.Proofs.Ytkeikkkcmackeaa

namespace Go.Proofs.Ytkeikkkcmackeaa
open Go.RowKit Go.Shelf
set_option linter.unusedVariables false
set_option linter.unusedSimpArgs false
set_option maxRecDepth 100000
section
variable {w : World} {g bg c a : Nat} {bs : List Int}
set_option maxHeartbeats 4000000 in
theorem doesB_any (H : Rd w g bg c a bs) (F : Nat) (caps : Array Value) (eg : ∀ args w, (callFunc F args).run Try.prog w = .ok (.enter F args) w) (vb a' : Nat) (T : TypeId) (bl : List Int) (hv : vb < w.heap.size)
    (hcall : ∀ w2, Below w.heap.size w w2 → Calls Try.prog F caps w2 fun e w' => e = .returned (.tuple #[]) ∧ ∃ x, DoR w2 g bg c a' bs vb T x w' ∧ SRow w' w2.heap.size x bl) :
    Calls Try.prog 84 #[rdP g, .func (.func F) #[] caps] w fun e w' => e = .returned (.int .i64 0) ∧ ∃ x, DoR w g bg c a' bs vb T x w' ∧ SRow w' w.heap.size x bl := by
  have hlt := H.lt
  have HC := Lib.hid hcall
  have HH := Lib.hid H
  clear hcall H
  go_enter_defers Try.func84, Try.ntmps84
  go_upto_region 3 with (fail)
  obtain ⟨B, hB⟩ : ∃ B, B = w.heap.size := ⟨_, rfl⟩
  obtain ⟨W2, hW⟩ : ∃ W2, W2 = (w.alloc (.cells #[rdP g] 62)).alloc (.cells #[.int .i64 0] 54) := ⟨_, rfl⟩
  have hz : W2.heap.size = B + 2 := by rw [hW, hB]; simp
  have cb : Below w.heap.size w W2 := by rw [hW]; exact belowA (belowA (Below.refl _ _) _) _
  have k0 : Blk W2 B 62 #[rdP g] := by rw [hW, hB]; exact (Blk.new _ _ _).alloc _
  have k1 : Blk W2 (B + 1) 54 #[.int .i64 0] := by
    rw [hW, hB]
    have := Blk.new (w.alloc (.cells #[rdP g] 62)) 54 #[.int .i64 0]
    simpa using this
  rw [← hW, ← hB]
  have hg : W2.heap[g]? = some (.cells (rdCells bg bs.length c a) 104 (0, 0)) := (HH.out.kept cb).blk
  have hs := rdCells_size bg bs.length c a
  have h1 := rdCells_one bg bs.length c a
  obtain ⟨cs, hcs⟩ : ∃ cs, rdCells bg bs.length c a = cs := ⟨_, rfl⟩
  rw [hcs] at hg hs h1
  have CB := Lib.hid cb
  have K0 := Lib.hid k0
  have K1 := Lib.hid k1
  have c0 := k0.cell 0
  have HG := Lib.hid hg
  have HZ := Lib.hid hz
  have HB := Lib.hid hB
  have hgb : g < B := by omega
  have hi : (Try.prog.info? 104).map (·.size) = some cs.size := by rw [hs]; kernel_rfl
  have HI := Lib.hid hi
  have hst : ∀ (C : Array Value), C.size = 20 → (storeCells ⟨W2.heap.size, 0, none⟩ cs.toList 0).run Try.prog (W2.alloc (.cells C 104)) = .ok () (W2.alloc (.cells cs 104)) := fun C hC => Go.run_storeCells_new W2 104 C cs hi (by rw [hC, hs]) h1
  have hst0 := hst #[.slice none 0 0, .int .i64 0, .int .i64 0, .int .i64 0, .int .i64 0, .int .i64 0, .int .i64 0, .int .i64 0, .int .i64 0, .int .i64 0, .int .i64 0, .int .i64 0, .int .i64 0, .int .i64 0, .int .i64 0, .int .i64 0, .int .i64 0, .int .i64 0, .int .i64 0, .int .i64 0] rfl
  clear hW cb hB k0 k1 hcs hg hz hi h1 hst
  go_wp2_with (first | (refine wpList_load_row rfl 104 (.tmp 9) rfl g rfl 104 cs (0, 0) _ HG.out Try.underlying104 rfl HI.out ?_))
  obtain ⟨W3, hW3⟩ : ∃ W3, W3 = W2.alloc (.cells cs 104) := ⟨_, rfl⟩
  have b3 : Below W2.heap.size W2 W3 := by rw [hW3]; exact belowA (Below.refl _ _) _
  rw [← hW3]
  have HC3 := Lib.hid (HC.out W3 (CB.out.trans (b3.mono CB.out.size)))
  have c1 : W3.cell? ⟨B + 1, 0, none⟩ = some (.int .i64 0) := keepC b3 (K1.out.cell 0)
  have f1 : W3.frozen? ⟨B + 1, 0, none⟩ = false := (b3.frozen (p := ⟨B + 1, 0, none⟩) K1.out.lt).trans (K1.out.frozen 0)
  have B3 := Lib.hid b3
  have hl1 := World.block_lt_of_cell? _ _ c1
  simp only at hl1
  clear hW3 b3 hst0 HC
  refine HC3.out.mono ?_
  rintro e w4 ⟨rfl, x, d4, r4⟩
  have hvb : vb < B := by rw [HB.out]; exact hv
  have hk : w4.heap[B + 1]? = W3.heap[B + 1]? := d4.2.2.2.2.2.2 (B + 1) hl1 (by omega) (by omega)
  have e1 : w4.cell? ⟨B + 1, 0, none⟩ = some (.int .i64 0) := (World.cell?_of_block hk).trans c1
  have g1 : w4.frozen? ⟨B + 1, 0, none⟩ = false := (World.frozen?_of_block hk).trans f1
  have D4 := Lib.hid d4
  have R4 := Lib.hid r4
  have hw3 : B + 1 < W3.heap.size := hl1
  clear hk r4 d4 c1 f1 HC3 c0
  go_wp2_with fail
  have e2 : (w4.setCell ⟨B + 1, 0, none⟩ (.int .i64 0)).cell? ⟨B + 1, 0, none⟩ = some (.int .i64 0) := World.cell?_setCell_same' _ _ _ (by rw [e1]; rfl)
  have hl4 : w.heap.size ≤ B + 1 := by have := HB.out; omega
  have FIN : Hid (DoR w g bg c a' bs vb T x (w4.setCell ⟨B + 1, 0, none⟩ (.int .i64 0)) ∧ SRow (w4.setCell ⟨B + 1, 0, none⟩ (.int .i64 0)) w.heap.size x bl) := Lib.hid (by
    refine ⟨?_, (R4.out.same (fun k hk => Below.heap_setCell _ _ _ _ (fun e => by have e : k = B + 1 := e; have := R4.out.from_ hk; omega))).weak (by omega)⟩
    obtain ⟨d1, d2, d3⟩ := D4.out
    have hB1 : B + 1 ≠ bg := by have := HH.out.room; omega
    have hB2 : B + 1 ≠ g := by omega
    have hB3 : B + 1 ≠ vb := by omega
    refine ⟨d1.newer hB2 hB1 _, d2.other hB3 _, ?_⟩
    have t := (Upd2.ofBelow (CB.out.trans (B3.out.mono CB.out.size)) g vb).trans d3
    exact ⟨t.1, t.2.1, t.2.2.1, by simpa [World.setCell] using t.2.2.2.1, fun i hi n m => (Below.heap_setCell _ _ _ _ (by show i ≠ B + 1; omega)).trans (t.2.2.2.2 i hi n m)⟩)
  refine leaves_cons (f := 90) (args := #[.pointer (some ⟨B + 1, 0, none⟩)]) (by simp) (by simp [go_sem]) ?_
  refine (caught_idle ⟨B + 1, 0, none⟩ _).mono ?_
  rintro e u' w'' ⟨rfl, rfl, rfl⟩
  refine leaves_cons (f := 92) (args := #[.pointer (some ⟨B + 1, 0, none⟩), .pointer (some ⟨W2.heap.size, 0, none⟩), .pointer (some ⟨B, 0, none⟩)]) (by first | decide | simp [settle]) (by simp [go_sem]) ?_
  refine (restore_idle (B + 1) W2.heap.size B _ e2).mono ?_
  rintro e u' w'' ⟨rfl, rfl, rfl⟩
  simp [Leaves, settle, results, Try.results84, go_sem, e2]
  exact ⟨x, FIN.out⟩
def DoB (W : World) (g bg c a' : Nat) (bs : List Int) (vb : Nat) (bl : List Int) (w' : World) : Prop := ∃ x, DoR W g bg c a' bs vb 40 x w' ∧ SRow w' W.heap.size x bl
set_option maxHeartbeats 4000000 in
theorem bytesRC (H : Rd w g bg c a bs) (n most : Nat) (hm : n ≤ most) (hn : 0 < n) (hnum : num ((bs.drop a).take 4) = n) (h : a + 4 + n ≤ bs.length) (br bz bv : Nat) (x0 : Value) (cr : w.cell? ⟨br, 0, none⟩ = some (rdP g)) (cz : w.cell? ⟨bz, 0, none⟩ = some (.int .i64 most)) (hbz : bz ≠ g) (hbr : br ≠ g) (cv : Blk w bv 40 #[x0]) (n1 : bv ≠ g) (n2 : bv ≠ bg) :
    Calls Try.prog 85 #[.pointer (some ⟨br, 0, none⟩), .pointer (some ⟨bz, 0, none⟩), .pointer (some ⟨bv, 0, none⟩)] w fun e w' => e = .returned (.tuple #[]) ∧ DoB w g bg c (a + 4 + n) bs bv ((bs.drop (a + 4)).take n) w' := by
  have TK := Lib.hid (take_any H 4 (by omega) (by omega))
  have hfew := H.few
  have hby : Byts ((bs.drop a).take 4) := fun b hb => H.byts b (List.mem_of_mem_drop (List.mem_of_mem_take hb))
  have hlen : ((bs.drop a).take 4).length = 4 := by rw [List.length_take, List.length_drop]; omega
  have hlen2 : ((bs.drop (a + 4)).take n).length = n := by rw [List.length_take, List.length_drop]; omega
  have HBY := Lib.hid hby
  have HLEN := Lib.hid hlen
  have HLEN2 := Lib.hid hlen2
  have HNUM := Lib.hid hnum
  have CV := Lib.hid cv
  have hcast : ((4 : Nat) : Int) = 4 := rfl
  rw [hcast] at TK
  have WU : IntKind.i64.wrap (n : Int) = n := by rw [IntKind.wrap_i64]; omega
  have hbrw := World.block_lt_of_cell? _ _ cr
  have hbzw := World.block_lt_of_cell? _ _ cz
  simp only at hbrw hbzw
  clear H hby hlen hlen2 cv hcast hnum
  go_enter Try.func85, Try.ntmps85
  go_wp2_with fail
  refine TK.out.mono ?_
  rintro e w1 ⟨rfl, h1, u1⟩
  have NB := Lib.hid (number32_any w1 bg a (c - a) ((bs.drop a).take 4) HBY.out HLEN.out (fun j u hj => h1.bytes (a + j) u (by
    have hj' : j < 4 := by have := (List.getElem?_eq_some_iff.1 hj).1; rwa [HLEN.out] at this
    rw [List.getElem?_take, if_pos hj', List.getElem?_drop] at hj
    exact hj)))
  have H1 := Lib.hid h1
  have V1 := Lib.hid (u1.blk CV.out n1)
  have U1 := Lib.hid u1
  have z1 : w1.cell? ⟨bz, 0, none⟩ = some (.int .i64 most) := (u1.cell (p := ⟨bz, 0, none⟩) hbzw hbz).trans cz
  have r1 : w1.cell? ⟨br, 0, none⟩ = some (rdP g) := (u1.cell (p := ⟨br, 0, none⟩) hbrw hbr).trans cr
  rw [HNUM.out] at NB
  clear h1 u1 TK CV HBY HLEN cr cz
  go_wp2_with fail
  refine NB.out.mono ?_
  rintro e w2 ⟨rfl, b2⟩
  have H2 := Lib.hid (H1.out.kept b2)
  have V2 := Lib.hid (V1.out.kept b2)
  have U2 := Lib.hid (U1.out.below b2)
  have z2 : w2.cell? ⟨bz, 0, none⟩ = some (.int .i64 most) := keepC b2 z1
  have r2 : w2.cell? ⟨br, 0, none⟩ = some (rdP g) := keepC b2 r1
  have TK2 := Lib.hid (take_any H2.out n hn h)
  clear b2 H1 V1 U1 NB z1 r1
  go_wp2_with fail
  refine TK2.out.mono ?_
  rintro e w3 ⟨rfl, h3, u3⟩
  have CL : Hid (Calls Try.prog 60 #[.slice (some ⟨bg, a + 4, none⟩) n (c - (a + 4))] w3 (fun e w' => ∃ bv, e = .returned bv ∧ SRow w' w3.heap.size bv ((bs.drop (a + 4)).take n) ∧ Below w3.heap.size w3 w')) := Lib.hid (by
    have := clone_any w3 bg (a + 4) (c - (a + 4)) ((bs.drop (a + 4)).take n) (by intro e; rw [e] at HLEN2; have := HLEN2.out; simp at this; omega) (by rw [HLEN2.out]; omega) (fun j u hj => h3.bytes (a + 4 + j) u (by
      have hj' : j < n := by have := (List.getElem?_eq_some_iff.1 hj).1; rwa [HLEN2.out] at this
      rw [List.getElem?_take, if_pos hj', List.getElem?_drop] at hj
      exact hj))
    rwa [HLEN2.out] at this)
  have H3 := Lib.hid h3
  have V3 := Lib.hid (u3.blk V2.out n1)
  have U3 := Lib.hid (U2.out.trans u3)
  clear h3 u3 TK2 V2 U2 H2 z2 r2
  go_wp2_with fail
  refine CL.out.mono ?_
  rintro e w4 ⟨x, rfl, hr, b4⟩
  obtain ⟨ao, cx, hx⟩ := SRow.slice hr
  rw [HLEN2.out] at hx
  subst hx
  have H4 := Lib.hid (H3.out.kept b4)
  have v4 := V3.out.kept b4
  have V4 := Lib.hid v4
  have U4 := Lib.hid (U3.out.below b4)
  have R4 := Lib.hid (hr.weak U3.out.size)
  have v40 : w4.cell? ⟨bv, 0, none⟩ = some x0 := v4.cell 0
  have v4f := v4.frozen 0
  have hbvw : ∀ k, (Value.slice ao n cx).ownBlock = some k → k ≠ bv := fun k hk e => by
    have h1 := hr.from_ hk
    have h2 := V3.out.lt
    omega
  have NBV := Lib.hid hbvw
  clear hr b4 v4 H3 V3 U3 CL hbvw
  go_wp2_with fail
  go_end0
  refine ⟨rfl, _, ⟨H4.out.newer (by exact n1) (by exact n2) _, V4.out.set_ 0 _, ?_⟩, R4.out.same (fun k hk => Below.heap_setCell _ _ _ _ (NBV.out k hk))⟩
  have u := Upd2.ofUpd (v := bv) U4.out
  exact ⟨u.1, u.2.1, u.2.2.1, by simpa [World.setCell] using u.2.2.2.1, fun i hi n m => (Below.heap_setCell _ _ _ _ (by exact m)).trans (u.2.2.2.2 i hi n m)⟩
/-- What was read, and how far the reader has come. -/
def ReadY (W : World) (g bg c a' : Nat) (bs bl : List Int) (e : Ending) (w' : World) : Prop := ∃ x, e = .returned (.tuple #[x, .int .i64 0]) ∧ SRow w' W.heap.size x bl ∧ Rd w' g bg c a' bs ∧ Upd W g w'
set_option maxHeartbeats 4000000 in
theorem readBytes_any (H : Rd w g bg c a bs) (n most : Nat) (hm : n ≤ most) (hn : 0 < n) (hnum : num ((bs.drop a).take 4) = n) (h : a + 4 + n ≤ bs.length) :
    Calls Try.prog 63 #[rdP g, .int .i64 most] w (ReadY w g bg c (a + 4 + n) bs ((bs.drop (a + 4)).take n)) := by
  have HH := Lib.hid H
  have hlt := H.lt
  have hroom := H.room
  clear H
  obtain ⟨bl, hbl⟩ : ∃ bl, (bs.drop (a + 4)).take n = bl := ⟨_, rfl⟩
  have HBL := Lib.hid hbl
  rw [hbl]
  clear hbl
  go_enter Try.func63, Try.ntmps63
  go_upto_region 1 with (fail)
  obtain ⟨B, hB⟩ : ∃ B, B = w.heap.size := ⟨_, rfl⟩
  obtain ⟨W2, hW⟩ : ∃ W2, W2 = ((w.alloc (.cells #[rdP g] 62)).alloc (.cells #[.int .i64 most] 3)).alloc (.cells #[.slice none 0 0] 40) := ⟨_, rfl⟩
  have cb : Below w.heap.size w W2 := by rw [hW]; exact belowA (belowA (belowA (Below.refl _ _) _) _) _
  have k0 : W2.cell? ⟨B, 0, none⟩ = some (rdP g) := by rw [hW, hB]; exact (((Blk.new _ _ _).alloc _).alloc _).cell 0
  have k1 : W2.cell? ⟨B + 1, 0, none⟩ = some (.int .i64 most) := by rw [hW, hB]; simp [go_sem]
  have k2 : Blk W2 (B + 2) 40 #[.slice none 0 0] := by
    rw [hW, hB]
    have := Blk.new ((w.alloc (.cells #[rdP g] 62)).alloc (.cells #[.int .i64 most] 3)) 40 #[.slice none 0 0]
    simpa using this
  have hsz : W2.heap.size = B + 3 := by rw [hW, hB]; simp
  have ev : B + 1 + 1 = B + 2 := by omega
  rw [← hW, ← hB]
  simp only [ev]
  have DD : Hid (Calls Try.prog 84 #[rdP g, .func (.func 85) #[] #[.pointer (some ⟨B, 0, none⟩), .pointer (some ⟨B + 1, 0, none⟩), .pointer (some ⟨B + 2, 0, none⟩)]] W2 fun e w' => e = .returned (.int .i64 0) ∧ DoB W2 g bg c (a + 4 + n) bs (B + 2) bl w') := Lib.hid (by
    rw [← HBL.out]
    exact doesB_any (HH.out.kept cb) 85 #[.pointer (some ⟨B, 0, none⟩), .pointer (some ⟨B + 1, 0, none⟩), .pointer (some ⟨B + 2, 0, none⟩)] (enters_of Try.func85 (by kernel_rfl) rfl) (B + 2) (a + 4 + n) 40 _ (by omega)
      (fun w2 hb2 => bytesRC ((HH.out.kept cb).kept hb2) n most hm hn hnum h B (B + 1) (B + 2) _ (keepC hb2 k0) (keepC hb2 k1) (by omega) (by omega) (k2.kept hb2) (by omega) (by omega)))
  have CB := Lib.hid cb
  have HBB := Lib.hid hB
  have HSZ := Lib.hid hsz
  clear hW cb hB k2 hsz HH HBL
  go_wp2_with fail
  refine DD.out.mono ?_
  rintro e w3 ⟨rfl, x, ⟨d1, d2, d3⟩, hr⟩
  obtain ⟨ao, cx, hx⟩ := SRow.slice hr
  subst hx
  have D1 := Lib.hid d1
  have D2 := Lib.hid d2
  have U3 := Lib.hid (d3.upd CB.out (by have := HBB.out; omega))
  have R3 := Lib.hid (hr.weak CB.out.size)
  have NBV : Hid (∀ k, (Value.slice ao bl.length cx).ownBlock = some k → k ≠ B + 2) := Lib.hid (fun k hk e => by
    have h1 := hr.from_ hk
    have h2 := World.block_lt_of_cell? _ _ k1
    have h3 := HSZ.out
    omega)
  have c3 : w3.cell? ⟨B + 2, 0, none⟩ = some (.slice ao bl.length cx) := d2.cell 0
  have f3 := d2.frozen 0
  have hgB : B + 2 ≠ g := by have := HBB.out; omega
  have hgB2 : B + 2 ≠ bg := by have := HBB.out; omega
  have hw : w.heap.size ≤ B + 2 := by have := HBB.out; omega
  have c4 : (w3.setCell ⟨B + 2, 0, none⟩ (.slice ao bl.length cx)).cell? ⟨B + 2, 0, none⟩ = some (.slice ao bl.length cx) := World.cell?_setCell_same' _ _ _ (by rw [c3]; rfl)
  clear d1 d2 d3 hr DD CB HBB
  go_wp2_with fail
  exact bodyPost_ret (v := .tuple #[.slice ao bl.length cx, .int .i64 0]) (by simp [results, Try.results63, go_sem, c4]) rfl ⟨_, rfl, R3.out.same (fun k hk => Below.heap_setCell _ _ _ _ (NBV.out k hk)), D1.out.newer hgB hgB2 _, U3.out.newer (by exact hw) _⟩
end
end Go.Proofs.Ytkeikkkcmackeaa
