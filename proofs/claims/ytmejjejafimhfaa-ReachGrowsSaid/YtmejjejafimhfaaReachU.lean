/- reach.Course. -/
import Derived.Test.YtmejjejafimhfaaReachT
namespace Go.Proofs.Ytmejjejafimhfaa
open Go.RowKit
set_option linter.unusedVariables false
set_option linter.unusedSimpArgs false
set_option maxRecDepth 100000

theorem Sn.mono {w : World} {g g' : Nat} {sv : Value} {bs : List Int} (h : Sn w g sv bs) (k : g ≤ g') : Sn w g' sv bs := by
  obtain ⟨⟨ao, c, e, k1, k2, k3⟩, hr⟩ := h
  exact ⟨⟨ao, c, e, k1, k2, k3.imp id fun ⟨b, off, e1, e2, e4⟩ => ⟨b, off, e1, by omega, e4⟩⟩, hr⟩
theorem Wk.other {w : World} {g : Nat} {r : Rg} {sv : Value} {L : List Acc} {st : Bool} (h : Wk w g r sv L st) {p : Addr} (hp : p.block ≠ g) (u : Value) : Wk (w.setCell p u) g r sv L st := by
  obtain ⟨⟨cs, hb, q⟩, hl⟩ := h
  exact ⟨⟨cs, hb.other hp u, q⟩, hl⟩
/-- What a course ends with. -/
def mEnd (F : (Int × Bool) × St) : (Int × Bool) × Int × Bool := if F.2.st = true then ((0, false), 0, false) else (F.1, F.2.r.pc, true)
def zeroCells : Array Value := #[.int .u16 0, .int .u16 0, .int .u16 0, .int .u16 0, .int .u16 0, .int .u16 0, .int .u8 0, .int .u8 0, .int .u8 0, .bool false, .slice none 0 0, .int .u8 0, .int .u32 0, .int .u8 0, .int .u8 0, .int .u32 0, .int .u8 0, .int .u8 0, .int .u32 0, .int .u8 0, .int .u8 0, .int .u32 0, .int .u8 0, .int .u8 0, .int .u32 0, .int .u8 0, .int .u8 0, .int .u32 0, .int .u8 0, .int .u8 0, .int .u32 0, .int .u8 0, .int .u8 0, .int .u32 0, .int .u8 0, .int .u8 0, .int .u32 0, .int .u8 0, .int .u8 0, .int .u32 0, .int .u8 0, .int .u8 0, .int .u32 0, .int .u8 0, .int .u8 0, .int .u32 0, .int .u8 0, .int .i64 0, .bool false]
def courseW (w : World) (c m u wd : Int) (nm : ByteArray) (r : Rg) : World := (((w.alloc (.cells #[.int .u8 c, .string nm, .int .u8 m, .int .u8 u, .int .u8 wd] 23)).alloc (.cells #[.int .u16 r.a, .int .u16 r.x, .int .u16 r.y, .int .u16 r.s, .int .u16 r.d, .int .u16 r.pc, .int .u8 r.b, .int .u8 r.k, .int .u8 r.p, .bool r.e] 26)).alloc (.cells #[.int .u32 0, .bool false] 31)).alloc (.cells zeroCells 47)

def zeroR : Rg := ⟨0, 0, 0, 0, 0, 0, 0, 0, 0, false⟩
theorem laid4 (w : World) (c m u wd : Int) (nm : ByteArray) (r : Rg) :
    Blk (courseW w c m u wd nm r) w.heap.size 23 #[.int .u8 c, .string nm, .int .u8 m, .int .u8 u, .int .u8 wd] ∧
    Blk (courseW w c m u wd nm r) (w.heap.size + 2) 31 #[.int .u32 0, .bool false] ∧
    Wk (courseW w c m u wd nm r) (w.heap.size + 3) zeroR (.slice none 0 0) [] false ∧
    Below w.heap.size w (courseW w c m u wd nm r) := by
  unfold courseW
  have hb := belowA (belowA (belowA (belowA (Below.refl w.heap.size w) (.cells #[.int .u8 c, .string nm, .int .u8 m, .int .u8 u, .int .u8 wd] 23)) (.cells #[.int .u16 r.a, .int .u16 r.x, .int .u16 r.y, .int .u16 r.s, .int .u16 r.d, .int .u16 r.pc, .int .u8 r.b, .int .u8 r.k, .int .u8 r.p, .bool r.e] 26)) (.cells #[.int .u32 0, .bool false] 31)) (.cells zeroCells 47)
  refine ⟨(((Blk.new w _ _).alloc _).alloc _).alloc _, ?_, ⟨⟨zeroCells, ?_, rfl, rfl, rfl, rfl, rfl, rfl, rfl, rfl, rfl, rfl, rfl, rfl, rfl, rfl, fun i hi => absurd hi (by simp)⟩, by simp⟩, hb⟩
  · have := Blk.new ((w.alloc (.cells #[.int .u8 c, .string nm, .int .u8 m, .int .u8 u, .int .u8 wd] 23)).alloc (.cells #[.int .u16 r.a, .int .u16 r.x, .int .u16 r.y, .int .u16 r.s, .int .u16 r.d, .int .u16 r.pc, .int .u8 r.b, .int .u8 r.k, .int .u8 r.p, .bool r.e] 26)) 31 #[.int .u32 0, .bool false]
    exact Blk.alloc (by simpa using this) _
  · have := Blk.new (((w.alloc (.cells #[.int .u8 c, .string nm, .int .u8 m, .int .u8 u, .int .u8 wd] 23)).alloc (.cells #[.int .u16 r.a, .int .u16 r.x, .int .u16 r.y, .int .u16 r.s, .int .u16 r.d, .int .u16 r.pc, .int .u8 r.b, .int .u8 r.k, .int .u8 r.p, .bool r.e] 26)).alloc (.cells #[.int .u32 0, .bool false] 31)) 47 zeroCells
    simpa using this

set_option maxHeartbeats 2000000 in
theorem course_m (c m u wd : Int) (nm : ByteArray) (r : Rg) (sv : Value) (bs : List Int) (w : World) (hs : Sn w w.heap.size sv bs) (ok : r.ok) (u0 : 0 ≤ u) :
    Calls Try.prog 5 #[codeV c nm m u wd, rV r, sv] w fun e w' => ∃ g, e = .returned (.tuple #[listV g (mReach m u ⟨setR r, bs, [], false⟩).2.L, placeV (mEnd (mReach m u ⟨setR r, bs, [], false⟩)).1.1 (mEnd (mReach m u ⟨setR r, bs, [], false⟩)).1.2, .int .u16 (mEnd (mReach m u ⟨setR r, bs, [], false⟩)).2.1, .bool (mEnd (mReach m u ⟨setR r, bs, [], false⟩)).2.2]) ∧ (∃ v, Wk w' g (mReach m u ⟨setR r, bs, [], false⟩).2.r v (mReach m u ⟨setR r, bs, [], false⟩).2.L (mReach m u ⟨setR r, bs, [], false⟩).2.st) ∧ Below w.heap.size w w' ∧ w.heap.size ≤ g := by
  obtain ⟨⟨⟨ad, bk⟩, F⟩, hF⟩ : ∃ q, mReach m u ⟨setR r, bs, [], false⟩ = q := ⟨_, rfl⟩
  rw [hF]
  have HF := Lib.hid hF
  have OK := Lib.hid ok
  have HS := Lib.hid hs
  clear hF hs ok
  obtain ⟨a, x, y, s, d, pc, b, k, p, e⟩ := r
  go_enter Try.func5, Try.ntmps5
  go_wp2_with fail
  obtain ⟨W1, hW⟩ : ∃ W1, W1 = courseW w c m u wd nm ⟨a, x, y, s, d, pc, b, k, p, e⟩ := ⟨_, rfl⟩
  change Calls _ _ _ (courseW w c m u wd nm ⟨a, x, y, s, d, pc, b, k, p, e⟩) _
  have L := laid4 w c m u wd nm ⟨a, x, y, s, d, pc, b, k, p, e⟩
  rw [← hW] at L ⊢
  obtain ⟨B, hB⟩ : ∃ B, B = w.heap.size := ⟨_, rfl⟩
  rw [← hB] at L ⊢
  obtain ⟨bc, bp, wk, hb⟩ := L
  have HS1 := Lib.hid ((HS.out.kept (Upd.ofBelow (show Below w.heap.size w W1 by rw [← hB]; exact hb) _)).mono (show w.heap.size ≤ B + 3 by omega))
  have hB1 : w.heap.size = B := hB.symm
  have HB := Lib.hid (show Below w.heap.size w W1 by rw [← hB]; exact hb)
  clear hW hB HS hb
  refine (begin_m ⟨a, x, y, s, d, pc, b, k, p, e⟩ zeroR sv (.slice none 0 0) bs (B + 3) _ wk HS1.out OK.out).mono ?_
  rintro q w1 ⟨rfl, k1, u1⟩
  have bc1 := u1.blk bc (by omega)
  have BP1 := Lib.hid (u1.blk bp (by omega))
  have c0 := bc1.cell 0
  have c1 := bc1.cell 1
  have c2 := bc1.cell 2
  have c3 := bc1.cell 3
  have c4 := bc1.cell 4
  have K1 := Lib.hid k1
  have HB1 := Lib.hid (u1.out HB.out (by omega))
  clear k1 u1 bc bp wk HS1 HB bc1
  go_wp2_with fail
  refine (reach_m c m u wd nm (B + 3) _ _ K1.out u0).mono ?_
  rw [HF.out]
  rintro q w2 ⟨rfl, k2, u2⟩
  simp only at k2 
  have BP2 := Lib.hid (u2.blk BP1.out (by omega))
  have K2 := Lib.hid k2
  have HB2 := Lib.hid (u2.out HB1.out (by omega))
  clear k2 u2 BP1 K1 HB1 c0 c1 c2 c3 c4
  go_wp2_with fail
  obtain ⟨W3, hW⟩ : ∃ W3, W3 = w2.alloc (.cells #[.int .u32 ad, .bool bk] 31) := ⟨_, rfl⟩
  have PL3 : Blk W3 w2.heap.size 31 #[.int .u32 ad, .bool bk] := by rw [hW]; exact Blk.new _ _ _
  have b3 : Below w2.heap.size w2 W3 := by rw [hW]; exact belowA (Below.refl _ _) _
  have k3 := K2.out.upd b3
  have BP3 := Lib.hid (BP2.out.kept b3)
  have HB3 := Lib.hid (HB2.out.trans (b3.mono HB2.out.size))
  rw [← hW]
  obtain ⟨G, hG⟩ : ∃ G, G = w2.heap.size := ⟨_, rfl⟩
  rw [← hG] at PL3 ⊢
  have hBG : B + 3 < G := by have := K2.out.lt; omega
  have K3 := Lib.hid k3
  have PLH := Lib.hid PL3
  clear hW hG b3 k3 BP2 HB2 K2 PL3
  refine (done_m (B + 3) F _ K3.out).mono ?_
  rintro q w4 ⟨rfl, rfl⟩
  have HL := Lib.hid (list_m (B + 3) F)
  cases hst : F.st
  · have he : mEnd ((ad, bk), F) = ((ad, bk), F.r.pc, true) := by simp [mEnd, hst]
    have HE := Lib.hid he
    clear he
    simp only [Bool.not_false]
    go_wp2_with fail
    have b0 := belowD (Below.refl W3.heap.size W3)
    have bp4 := BP3.out.drew
    have k4 := K3.out.upd b0
    have hk4 := Lib.hid k4
    have PL4 := PLH.out.drew
    have HB4 := Lib.hid (HB3.out.drew)
    have BP4 := Lib.hid bp4
    have p0 : W3.drew.cell? ⟨G, 0, none⟩ = some (.int .u32 ad) := PL4.cell 0
    have p1 : W3.drew.cell? ⟨G, 1, none⟩ = some (.bool bk) := PL4.cell 1
    have pc4 := k4.regs.2.2.2.2.2.1
    have PLX := Lib.hid PL4
    have g1 : G ≠ B + 1 + 1 := by omega
    have g2 : B + 1 + 1 + 1 ≠ B + 1 + 1 := by omega
    clear b0 bp4 k4 PL4 K3 BP3 HB3 PLH
    go_region_held3 (fun w' => w'.cell? ⟨G, 0, none⟩ = some (.int .u32 ad) ∧ w'.cell? ⟨G, 1, none⟩ = some (.bool bk) ∧ w'.cell? ⟨B + 1 + 1 + 1, 5, none⟩ = some (.int .u16 F.r.pc))
      (first
        | (with_reducible exact ⟨p0, p1, pc4⟩)
        | (with_reducible exact ⟨q0, q1, pc5⟩)
        | (with_reducible exact ⟨keepSet (keepSet q0 g1) g1, keepSet (keepSet q1 g1) g1, keepSet (keepSet pc5 g2) g2⟩))
      (first
        | (go_at_call 18; refine (list_m (B + 3) F _ hk4.out).mono ?_; rintro q w5 ⟨rfl, hb5⟩; have q0 := keepC hb5 p0; have q1 := keepC hb5 p1; have pc5 := keepC hb5 pc4; have bp5 := BP4.out.kept hb5; have z0 : w5.cell? ⟨B + 1 + 1, 0, none⟩ = some (.int .u32 0) := bp5.cell 0; have z1 : w5.cell? ⟨B + 1 + 1, 1, none⟩ = some (.bool false) := bp5.cell 1; have f0 : w5.frozen? ⟨B + 1 + 1, 0, none⟩ = false := bp5.frozen 0; have f1 : w5.frozen? ⟨B + 1 + 1, 1, none⟩ = false := bp5.frozen 1; have K5 := Lib.hid (hk4.out.upd hb5); have HB5 := Lib.hid (HB4.out.trans (hb5.mono HB4.out.size)); clear hb5 bp5))
    all_goals
      go_wp2_with fail
      refine bodyPost_ret (v := .tuple #[listV (B + 3) F.L, placeV ad bk, .int .u16 F.r.pc, .bool true]) (by simp [results, Try.results5, go_sem, z0, z1]) rfl ?_
      rw [HE.out]
      refine ⟨B + 3, rfl, ?_, ?_, by omega⟩
      · obtain ⟨⟨v, k, _⟩, _⟩ := K5.out
        exact ⟨v, (k.other (by show B + 2 ≠ B + 3; omega) _).other (by show B + 2 ≠ B + 3; omega) _⟩
      · exact belowS (belowS HB5.out (by show w.heap.size ≤ B + 2; omega) _) (by show w.heap.size ≤ B + 2; omega) _
  · have he : mEnd ((ad, bk), F) = ((0, false), 0, false) := by simp [mEnd, hst]
    have HE := Lib.hid he
    clear he
    simp only [Bool.not_true]
    go_wp2_with fail
    refine (list_m (B + 3) F _ K3.out).mono ?_
    rintro q w5 ⟨rfl, hb5⟩
    have bp5 := BP3.out.kept hb5
    have z0 : w5.cell? ⟨B + 1 + 1, 0, none⟩ = some (.int .u32 0) := bp5.cell 0
    have z1 : w5.cell? ⟨B + 1 + 1, 1, none⟩ = some (.bool false) := bp5.cell 1
    have f0 : w5.frozen? ⟨B + 1 + 1, 0, none⟩ = false := bp5.frozen 0
    have f1 : w5.frozen? ⟨B + 1 + 1, 1, none⟩ = false := bp5.frozen 1
    have K5 := Lib.hid (K3.out.upd hb5)
    have HB5 := Lib.hid (HB3.out.trans (hb5.mono HB3.out.size))
    clear hb5 bp5 K3 HB3
    go_wp2_with fail
    refine bodyPost_ret (v := .tuple #[listV (B + 3) F.L, placeV 0 false, .int .u16 0, .bool false]) (by simp [results, Try.results5, go_sem, z0, z1]) rfl ?_
    rw [HE.out]
    refine ⟨B + 3, rfl, ?_, ?_, by omega⟩
    · obtain ⟨⟨v, k, _⟩, _⟩ := K5.out
      exact ⟨v, (k.other (by show B + 2 ≠ B + 3; omega) _).other (by show B + 2 ≠ B + 3; omega) _⟩
    · exact belowS (belowS HB5.out (by show w.heap.size ≤ B + 2; omega) _) (by show w.heap.size ≤ B + 2; omega) _
end Go.Proofs.Ytmejjejafimhfaa
