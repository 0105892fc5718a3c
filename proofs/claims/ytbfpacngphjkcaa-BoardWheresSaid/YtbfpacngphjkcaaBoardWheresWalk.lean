/- BoardWheres: the walk. -/
import Derived.Test.YtbfpacngphjkcaaBoardW
import Derived.Test.YtbfpacngphjkcaaOpen
import Derived.Test.YtbfpacngphjkcaaBoardS
namespace Go.Proofs.Ytbfpacngphjkcaa.boardWheres
open Go Go.RowKit Go.ChangeShapes
attribute [local go_sem] Oper.semAt_some
set_option linter.unusedVariables false
set_option linter.unusedSimpArgs false
set_option maxRecDepth 100000

theorem where_any (w : World) (gb : Nat) (q t : Int) : Calls Try.prog 22 #[.pointer (some ⟨gb, 0, none⟩), spotV (q, t)] w fun e w' =>
    e = .returned (.func (.func 28) #[] #[.pointer (some ⟨w.heap.size, 0, none⟩), .pointer (some ⟨w.heap.size + 1, 0, none⟩)]) ∧
    w' = (w.alloc (.cells #[.pointer (some ⟨gb, 0, none⟩)] 25)).alloc (.cells #[.int .u8 q, .int .i64 t] 40) := by
  go_enter Try.func22, Try.ntmps22
  go_wp2_with fail
  go_ret
  exact ⟨rfl, rfl⟩

theorem eq_nilFunc (w : World) (f : Fn) (a c : Array Value) : (binOp .eql 53 (.func f a c) .nilFunc).run Try.prog w = .ok (.bool false) w := by rfl
theorem lo_at (n r : Nat) (t : Int) (h0 : 0 ≤ t) (h1 : t < n) (h2 : t < 32768) : spotAt 1 n r (32768 + t) = (1, t) := by
  obtain ⟨k, rfl⟩ := Int.eq_ofNat_of_zero_le h0
  obtain ⟨b, hb⟩ : ∃ b, (32768 + (k : Int)) / 65536 % 256 = b := ⟨_, rfl⟩
  obtain ⟨p, hp⟩ : ∃ p, (32768 + (k : Int)) % 65536 = p := ⟨_, rfl⟩
  unfold spotAt
  rw [hb, hp]
  have eb : b = 0 := by omega
  have ep : p = 32768 + (k : Int) := by omega
  subst eb ep
  have l1 : loRam 0 (32768 + (k : Int)) = false := by unfold loRam; exact decide_eq_false (by omega)
  have l2 : loRom (32768 + (k : Int)) = true := by unfold loRom; exact decide_eq_true (by omega)
  unfold spot
  rw [if_neg (by decide), if_pos rfl, l1, l2, if_neg (by simp), if_pos rfl]
  have e : ((0 : Int) % 128 * 32768 + (32768 + (k : Int)) - 32768).toNat = k := by omega
  rw [e, place_in (show k < n by omega)]
theorem split5 (q t lay : Int) (n : Nat) : (q ≠ 1) ∨ (q = 1 ∧ t < 0) ∨ (q = 1 ∧ 0 ≤ t ∧ (n : Int) ≤ t) ∨ (q = 1 ∧ 0 ≤ t ∧ t < n ∧ 32768 ≤ t) ∨ (q = 1 ∧ 0 ≤ t ∧ t < n ∧ t < 32768 ∧ lay ≠ 1) ∨ (q = 1 ∧ 0 ≤ t ∧ t < n ∧ t < 32768 ∧ lay = 1) := by omega
/-- The last of some. -/
def lastOf (pre : List Nat) : Nat := pre.getLastD 0

attribute [local go_sem] eq_nilFunc
set_option maxHeartbeats 16000000 in
theorem law (lay rom ram by_ q t stop : Int) (w : World) (q0 : 0 ≤ q) (q1 : q ≤ 255) (st0 : -9223372036854775808 ≤ stop) (st1 : stop ≤ 9223372036854775807) (t0 : -9223372036854775808 ≤ t) (t1 : t ≤ 9223372036854775807)
    (l0 : 0 ≤ lay) (l1 : lay ≤ 255) (y0 : 0 ≤ by_) (y1 : by_ ≤ 255) (r0 : -9223372036854775808 ≤ rom) (r1 : rom ≤ 9223372036854775807) :
    Calls Try.prog 9 #[planV lay rom ram by_, spotV (q, t), .int .i64 stop] w fun e w' => e = .returned (.bool true) ∧ Below w.heap.size w w' := by
  refine (callsIn_wide (n := 0)).1 ?_
  refine callsIn_of_wp_marks Try.func9 rfl trivial ?_ rfl
  simp only [Try.ntmps9, List.size_toArray, List.length_cons, List.length_nil, Nat.reduceAdd, Nat.reduceSub, Array.replicate_succ, Array.replicate_zero, List.push_toArray, List.append_toArray, List.nil_append, List.cons_append]
  gi_wp2
  refine ⟨trivial, rfl, ?_⟩
  refine (callsIn_wide.2 (made_any lay rom ram by_ _ l0 l1 y0 y1 r0 r1)).mono ?_
  obtain ⟨W1, hW⟩ : ∃ W1, W1 = (((w.alloc (.cells #[.int .u8 lay, .int .i64 rom, .int .i64 ram, .int .u8 by_] 23)).alloc (.cells #[.int .u8 q, .int .i64 t] 40)).alloc (.cells #[.int .i64 stop] 3)).alloc (.cells #[.bool false] 4) := ⟨_, rfl⟩
  obtain ⟨B, hB⟩ : ∃ B, B = w.heap.size := ⟨_, rfl⟩
  have c0 : W1.cell? ⟨B, 0, none⟩ = some (.int .u8 lay) := by rw [hW, hB]; simp [go_sem]
  have c2 : W1.cell? ⟨B, 2, none⟩ = some (.int .i64 ram) := by rw [hW, hB]; simp [go_sem]
  have s0 : W1.cell? ⟨B + 1, 0, none⟩ = some (.int .u8 q) := by rw [hW, hB]; simp [go_sem]
  have s1 : W1.cell? ⟨B + 1, 1, none⟩ = some (.int .i64 t) := by rw [hW, hB]; simp [go_sem]
  have s2 : W1.cell? ⟨B + 2, 0, none⟩ = some (.int .i64 stop) := by rw [hW, hB]; simp [go_sem]
  have s3 : W1.cell? ⟨B + 3, 0, none⟩ = some (.bool false) := by rw [hW, hB]; simp [go_sem]
  have z2 : W1.frozen? ⟨B + 2, 0, none⟩ = false := by rw [hW, hB]; simp [go_sem]
  have z3 : W1.frozen? ⟨B + 3, 0, none⟩ = false := by rw [hW, hB]; simp [go_sem]
  have cb : Below w.heap.size w W1 := by rw [hW]; exact belowA (belowA (belowA (belowA (Below.refl _ _) _) _) _) _
  have hsz : W1.heap.size = B + 4 := by rw [hW, hB]; simp
  rw [← hW, ← hB]
  have HB := Lib.hid hB
  clear hW hB
  obtain ⟨b1, hb1⟩ : ∃ b1, b1 = B + 1 := ⟨_, rfl⟩
  rw [← hb1] at s0 s1 ⊢
  obtain ⟨b2, hb2⟩ : ∃ b2, b2 = b1 + 1 := ⟨_, rfl⟩
  rw [show B + 2 = b2 by omega] at s2 z2
  rw [← hb2]
  obtain ⟨b3, hb3⟩ : ∃ b3, b3 = b2 + 1 := ⟨_, rfl⟩
  rw [show B + 3 = b3 by omega] at s3 z3
  rw [← hb3]
  have hl1 : B < b1 := by omega
  have hl2 : b1 < b2 := by omega
  have hl3 : b2 < b3 := by omega
  have hsz4 : b3 < W1.heap.size := by omega
  have HB3 : Hid (b3 = B + 3) := by show b3 = B + 3; omega
  clear hb1 hb2 hb3 hsz
  have hle := romN_le rom
  obtain ⟨n, hn⟩ : ∃ n, romN rom = n := ⟨_, rfl⟩
  rw [hn] at hle ⊢
  clear hn
  rintro e w2 (⟨can, gb, gr, gm, ga, gc, cap, g0, f, rfl, bd, a0, hg0, hne, hb⟩ | ⟨can, g0, rfl, hb⟩)
  · have e0 := keepC hb c0
    have e2 := keepC hb c2
    have d0 := keepC hb s0
    have d1 := keepC hb s1
    have d2 := keepC hb s2
    have d3 := keepC hb s3
    have y2 : w2.frozen? ⟨b2, 0, none⟩ = false := (hb.frozen (p := ⟨b2, 0, none⟩) (by show b2 < W1.heap.size; omega)).trans z2
    have y3 : w2.frozen? ⟨b3, 0, none⟩ = false := (hb.frozen (p := ⟨b3, 0, none⟩) (by show b3 < W1.heap.size; omega)).trans z3
    have HBB := Lib.hid (cb.trans (hb.mono cb.size))
    have hz2 := hb.size
    have lb0 : B < w2.heap.size := by omega
    have lb1 : b1 < w2.heap.size := by omega
    have lb2 : b2 < w2.heap.size := by omega
    have lb3 : b3 < w2.heap.size := by omega
    have BD := Lib.hid bd
    unfold canB at can
    obtain ⟨k1, k2, k3, k4, k5, k6⟩ := of_decide_eq_true can
    obtain ⟨r, rfl⟩ := Int.eq_ofNat_of_zero_le k5
    rw [Int.toNat_natCast] at BD
    clear hb can s0 s1 s2 s3 c0 c2 z2 z3 cb bd a0 hne hg0 k5
    have hbw : w.heap.size ≤ B := by have := HB.out; omega
    have CE2 := Lib.hid BD.out.cells
    have GE := Lib.hid (⟨BD.out.lb, BD.out.lr, BD.out.lc⟩ : W1.heap.size ≤ gb ∧ W1.heap.size ≤ gr ∧ (lay ≠ 1 → W1.heap.size ≤ gc))
    clear BD
    gi_wp2
    all_goals
      generalize hW3 : World.alloc _ _ = W3
      have hst : ∃ st : Int, 1 ≤ st ∧ st ≤ 4 ∧ W3.cell? ⟨b2, 0, none⟩ = some (.int .i64 st) := by
        first
          | exact ⟨stop, by omega, by omega, by rw [← hW3]; simp [go_sem, d2, lb2]⟩
          | exact ⟨1, by omega, by omega, by rw [← hW3]; simp [go_sem, d2, lb2]⟩
      obtain ⟨st, hs1, hs4, v2⟩ := hst
      have v0 : W3.cell? ⟨B, 0, none⟩ = some (.int .u8 lay) := by
        rw [← hW3]; first | exact keepAlloc e0 _ | exact keepAlloc (keepSet e0 (by show B ≠ b2; omega)) _
      have v1 : W3.cell? ⟨B, 2, none⟩ = some (.int .i64 r) := by
        rw [← hW3]; first | exact keepAlloc e2 _ | exact keepAlloc (keepSet e2 (by show B ≠ b2; omega)) _
      have x0 : W3.cell? ⟨b1, 0, none⟩ = some (.int .u8 q) := by
        rw [← hW3]; first | exact keepAlloc d0 _ | exact keepAlloc (keepSet d0 (by show b1 ≠ b2; omega)) _
      have x1 : W3.cell? ⟨b1, 1, none⟩ = some (.int .i64 t) := by
        rw [← hW3]; first | exact keepAlloc d1 _ | exact keepAlloc (keepSet d1 (by show b1 ≠ b2; omega)) _
      have x3 : W3.cell? ⟨b3, 0, none⟩ = some (.bool false) := by
        rw [← hW3]; first | exact keepAlloc d3 _ | exact keepAlloc (keepSet d3 (by show b3 ≠ b2; omega)) _
      have f3 : W3.frozen? ⟨b3, 0, none⟩ = false := by rw [← hW3]; simp [go_sem, y3, lb3]
      have xr : W3.cell? ⟨w2.heap.size, 0, none⟩ = some (.slice (some ⟨g0, 0, none⟩) n n) := by rw [← hW3]; simp [go_sem]
      have B3 : Below w.heap.size w W3 := by
        rw [← hW3]; first | exact belowA HBB.out _ | exact belowA (belowS HBB.out (p := ⟨b2, 0, none⟩) (by show w.heap.size ≤ b2; omega) _) _
      have CE3 : Hid (Cells W3 lay gb gr gm ga gc n cap r) := by
        rw [← hW3]
        first
          | exact CE2.out.kept (belowA (Below.refl _ _) _)
          | exact (show Cells (w2.setCell ⟨b2, 0, none⟩ (.int .i64 1)) lay gb gr gm ga gc n cap r from CE2.out.keep (fun b o v hb hc => keepSet hc (by
              show b ≠ b2
              obtain ⟨g1, g2, g3⟩ := GE.out
              rcases hb with rfl | rfl | ⟨hl, rfl⟩
              · omega
              · omega
              · have := g3 hl; omega))).kept (belowA (Below.refl _ _) _)
      have lt3 := World.block_lt_of_cell? _ _ x3
      have ltr := World.block_lt_of_cell? _ _ xr
      simp only at lt3 ltr
      clear hW3 CE2 HBB e0 e2 d0 d1 d2 d3 y2 y3 lb0 lb1 lb2 lb3 GE
      refine ⟨trivial, rfl, ?_⟩
      refine (callsIn_wide.2 (where_any _ gb q t)).mono ?_
      rintro e W4 ⟨rfl, hW4⟩
      have b4 : Below W3.heap.size W3 W4 := by rw [hW4]; exact belowA (belowA (Below.refl _ _) _) _
      obtain ⟨Bb, hBb⟩ : ∃ Bb, Bb = W3.heap.size := ⟨_, rfl⟩
      have cb0 : W4.cell? ⟨Bb, 0, none⟩ = some (.pointer (some ⟨gb, 0, none⟩)) := by rw [hW4, hBb]; simp [go_sem]
      have cs0 : W4.cell? ⟨Bb + 1, 0, none⟩ = some (.int .u8 q) := by rw [hW4, hBb]; simp [go_sem]
      have cs1 : W4.cell? ⟨Bb + 1, 1, none⟩ = some (.int .i64 t) := by rw [hW4, hBb]; simp [go_sem]
      have v0 := keepC b4 v0
      have v1 := keepC b4 v1
      have v2 := keepC b4 v2
      have x0 := keepC b4 x0
      have x1 := keepC b4 x1
      have x3 := keepC b4 x3
      have xr := keepC b4 xr
      have f3 : W4.frozen? ⟨b3, 0, none⟩ = false := (b4.frozen (p := ⟨b3, 0, none⟩) (by show b3 < W3.heap.size; omega)).trans f3
      have CE4 := Lib.hid (CE3.out.kept b4)
      have HB4 := Lib.hid (B3.trans (b4.mono B3.size))
      have ltB := World.block_lt_of_cell? _ _ v0
      have lt1 := World.block_lt_of_cell? _ _ x0
      have lt2 := World.block_lt_of_cell? _ _ v2
      have lt3 := World.block_lt_of_cell? _ _ x3
      have ltr := World.block_lt_of_cell? _ _ xr
      simp only at ltB lt1 lt2 lt3 ltr
      rw [← hBb]
      clear hW4 hBb b4 B3 CE3
      gi_wp2
      generalize hA : Act.mk _ _ = A
      obtain ⟨W5, hW5⟩ : ∃ W5, W5 = (W4.alloc (.cells #[.int .i64 0] 3)).alloc (.cells #[.int .u32 0] 35) := ⟨_, rfl⟩
      have b5 : Below W4.heap.size W4 W5 := by rw [hW5]; exact belowA (belowA (Below.refl _ _) _) _
      have hs5 : W5.heap.size = W4.heap.size + 2 := by rw [hW5]; simp
      have n5 : W5.cell? ⟨W4.heap.size, 0, none⟩ = some (.int .i64 0) := by rw [hW5]; simp [go_sem]
      have a5 : W5.cell? ⟨W4.heap.size + 1, 0, none⟩ = some (.int .u32 0) := by rw [hW5]; simp [go_sem]
      have fn5 : W5.frozen? ⟨W4.heap.size, 0, none⟩ = false := by rw [hW5]; simp [go_sem]
      have fa5 : W5.frozen? ⟨W4.heap.size + 1, 0, none⟩ = false := by rw [hW5]; simp [go_sem]
      rw [← hW5]
      clear hW5
      refine wp_rangeB (gf := 28) (lb := #[.pointer (some ⟨Bb, 0, none⟩), .pointer (some ⟨Bb + 1, 0, none⟩)]) (by rw [← hA]; rfl) (enters_of Try.func28 (by kernel_rfl) rfl)
        (n0 := W4.heap.size) (B0 := W4.heap.size + 2) (by omega)
        (where_in W4 CE4.out (by omega) k3 k4 Bb (Bb + 1) cb0 q t cs0 cs1 (W4.heap.size + 2)) (b5) (Nat.le_refl _) (fun _ => rfl)
        (fun pre w' => Below W4.heap.size W4 w' ∧ w'.cell? ⟨W4.heap.size, 0, none⟩ = some (.int .i64 pre.length) ∧ w'.cell? ⟨W4.heap.size + 1, 0, none⟩ = some (.int .u32 (lastOf pre)) ∧
          w'.frozen? ⟨W4.heap.size, 0, none⟩ = false ∧ w'.frozen? ⟨W4.heap.size + 1, 0, none⟩ = false ∧ (pre.length : Int) < st ∧ (pre = [] ∨ lastOf pre ∈ pre))
        (fun c pre w' => c = .exit 0 ∧ Below W4.heap.size W4 w' ∧ w'.cell? ⟨W4.heap.size, 0, none⟩ = some (.int .i64 pre.length) ∧ 0 < pre.length)
        ?hI ?hIx ?h0
        (fun a act w' => act = { tmps := (A.tmps.setIfInBounds 39 (.int .u32 a)).setIfInBounds 13 (.int .u32 a), defers := [] })
        ?hP ?assign ?body ?done ?stop
      case hI =>
        rintro pre C D ⟨p1, p2, p3, p4, p5, p6, p7⟩ hb
        have l1 := World.block_lt_of_cell? _ _ p2
        have l2 := World.block_lt_of_cell? _ _ p3
        exact ⟨p1.trans (hb.mono (by omega)), by rw [← p2]; exact hb.cell (p := ⟨W4.heap.size, 0, none⟩) (by show W4.heap.size < W5.heap.size; omega), by rw [← p3]; exact hb.cell (p := ⟨W4.heap.size + 1, 0, none⟩) (by show W4.heap.size + 1 < W5.heap.size; omega),
          (hb.frozen (p := ⟨W4.heap.size, 0, none⟩) (by show W4.heap.size < W5.heap.size; omega)).trans p4, (hb.frozen (p := ⟨W4.heap.size + 1, 0, none⟩) (by show W4.heap.size + 1 < W5.heap.size; omega)).trans p5, p6, p7⟩
      case hIx =>
        rintro c pre C D ⟨rfl, p1, p2, p3⟩ hb
        exact ⟨rfl, p1.trans (hb.mono (by omega)), by rw [← p2]; exact hb.cell (p := ⟨W4.heap.size, 0, none⟩) (by show W4.heap.size < W5.heap.size; omega), p3⟩
      case h0 => exact ⟨b5, n5, a5, fn5, fa5, by simp; omega, Or.inl rfl⟩
      case hP => rintro a act C D rfl k; rfl
      case assign =>
        intro a W6 K hsz hK
        subst hA
        have HK := Lib.hid hK
        clear hK
        gi_wp2
        refine HK.out _ _ ?_ (Below.refl _ _)
        rfl
      case body =>
        rintro pre a act W6 rfl ⟨p1, p2, p3, p4, p5, p6, p7⟩ ⟨⟨ha, hr⟩, hne⟩ hsz
        subst hA
        have v0 := keepC p1 v0
        have v1 := keepC p1 v1
        have v2 := keepC p1 v2
        have x0 := keepC p1 x0
        have x1 := keepC p1 x1
        have xr := keepC p1 xr
        have DC : Hid (∀ w', Calls Try.prog 20 #[.int .u8 lay, .int .i64 n, .int .i64 r, .int .u32 a] w' fun e w'' => e = .returned (spotV (q, t)) ∧ Below w'.heap.size w' w'') := fun w' => by
          have := rdec_any a lay n r w' (by omega) (by omega) (by omega) k3 k4
          rw [show spot lay n r ((a : Int) / 65536 % 256) ((a : Int) % 65536) = (q, t) from hne] at this
          exact this
        have haI : (a : Int) < 16777216 := by omega
        have hge : ¬ (16777216 : Int) ≤ (a : Int) := by omega
        have hge2 : decide ((16777216 : Int) ≤ (a : Int)) = false := decide_eq_false hge
        have hge3 : decide ((a : Int) ≥ 16777216) = false := decide_eq_false hge
        have HR := Lib.hid hr
        have HS := Lib.hid p7
        have P1 := Lib.hid p1
        have lb := World.block_lt_of_cell? _ _ v0
        have lb1 := World.block_lt_of_cell? _ _ x0
        have lb2 := World.block_lt_of_cell? _ _ v2
        have lbr := World.block_lt_of_cell? _ _ xr
        have lbn := World.block_lt_of_cell? _ _ p2
        have lba := World.block_lt_of_cell? _ _ p3
        simp only at lb lb1 lb2 lbr lbn lba
        obtain ⟨bn, hbn⟩ : ∃ bn, bn = W4.heap.size := ⟨_, rfl⟩
        simp only [List.setIfInBounds_toArray, List.set_cons_succ, List.set_cons_zero]
        clear hne hr p7 p1
        gi_wp2
        refine wpIn_region_round (by kernel_rfl) (by kernel_rfl) (by kernel_rfl) ?_
        have PN := Lib.hid p2
        have PA := Lib.hid p3
        have ln4 : (pre.length : Int) ≤ 4 := by omega
        have TAIL : Hid (∀ W7, Below W6.heap.size W6 W7 → W7.cell? ⟨W4.heap.size, 0, none⟩ = some (.int .i64 pre.length) ∧ W7.cell? ⟨W4.heap.size + 1, 0, none⟩ = some (.int .u32 (lastOf pre)) ∧ W7.frozen? ⟨W4.heap.size, 0, none⟩ = false ∧ W7.frozen? ⟨W4.heap.size + 1, 0, none⟩ = false ∧ W7.cell? ⟨b2, 0, none⟩ = some (.int .i64 st) ∧
            KB W4.heap.size (W4.heap.size + 2) W6 ((W7.setCell ⟨W4.heap.size + 1, 0, none⟩ (.int .u32 a)).setCell ⟨W4.heap.size, 0, none⟩ (.int .i64 ((pre.length : Int) + 1))) ∧
            Below W4.heap.size W4 ((W7.setCell ⟨W4.heap.size + 1, 0, none⟩ (.int .u32 a)).setCell ⟨W4.heap.size, 0, none⟩ (.int .i64 ((pre.length : Int) + 1))) ∧
            ((W7.setCell ⟨W4.heap.size + 1, 0, none⟩ (.int .u32 a)).setCell ⟨W4.heap.size, 0, none⟩ (.int .i64 ((pre.length : Int) + 1))).cell? ⟨W4.heap.size, 0, none⟩ = some (.int .i64 ((pre ++ [a]).length : Nat)) ∧
            ((W7.setCell ⟨W4.heap.size + 1, 0, none⟩ (.int .u32 a)).setCell ⟨W4.heap.size, 0, none⟩ (.int .i64 ((pre.length : Int) + 1))).cell? ⟨W4.heap.size + 1, 0, none⟩ = some (.int .u32 (lastOf (pre ++ [a]) : Nat))) := by
          intro W7 hb7
          have q2 := keepC hb7 PN.out
          have q3 := keepC hb7 PA.out
          have k7 : KB W4.heap.size (W4.heap.size + 2) W6 W7 := KB.ofBelow _ hb7 (by omega)
          have k8 := (k7.setCell (p := ⟨W4.heap.size + 1, 0, none⟩) (by show W4.heap.size ≤ W4.heap.size + 1; omega) (by show W4.heap.size + 1 < W4.heap.size + 2; omega) (.int .u32 a)).setCell (p := ⟨W4.heap.size, 0, none⟩) (Nat.le_refl _) (by show W4.heap.size < W4.heap.size + 2; omega) (.int .i64 ((pre.length : Int) + 1))
          refine ⟨q2, q3, (hb7.frozen (p := ⟨W4.heap.size, 0, none⟩) lbn).trans p4, (hb7.frozen (p := ⟨W4.heap.size + 1, 0, none⟩) lba).trans p5, keepC hb7 v2, k8, P1.out.trans k8.bel, ?_, ?_⟩
          · rw [World.cell?_setCell_same' _ _ _ (by rw [keepSet q2 (by show W4.heap.size ≠ W4.heap.size + 1; omega)]; rfl)]
            simp
          · refine keepSet ?_ (by show W4.heap.size + 1 ≠ W4.heap.size; omega)
            rw [World.cell?_setCell_same' _ _ _ (by rw [q3]; rfl)]
            simp [lastOf]
        have wlen : IntKind.i64.wrap ((pre.length : Int) + 1) = (pre.length : Int) + 1 := by rw [IntKind.wrap_i64]; omega
        by_cases hpre : pre = []
        · have p2 : W6.cell? ⟨W4.heap.size, 0, none⟩ = some (.int .i64 0) := by rw [PN.out, hpre]; rfl
          repeat (gi_big_quiet_step (fail))
          refine Go.BigFrame.wpQuietIn_want (fun _ _ _ _ => trivial) rfl (fun K hK => ?_)
          gi_big_quiet_op
          refine ⟨spotV (q, t), fun y => ⟨rfl, quiet_moreIn (DC.out (moreOf W6 y))⟩, hK _ ?_⟩
          clear hK K
          repeat (gi_big_quiet_step (fail))
          refine wpQuietIn_nil ?_
          rintro _ ⟨y, rfl⟩
          obtain ⟨q2, q3, q4, q5, q6, q7, q8, q9, q10⟩ := TAIL.out _ (below_more y)
          obtain ⟨W7, hW7⟩ : ∃ W7, W7 = moreOf W6 y := ⟨_, rfl⟩
          rw [← hW7] at q2 q3 q4 q5 q6 q7 q8 q9 q10 ⊢
          clear hW7 p2 p3 p4 p5 PN PA TAIL DC
          have REL := Lib.hid (⟨q7, q8, q9, q10⟩ : _ ∧ _ ∧ _ ∧ _)
          clear q7 q8 q9 q10
          obtain ⟨m, hm⟩ : ∃ m, pre.length = m := ⟨_, rfl⟩
          rw [hm] at q2 wlen p6 ln4 REL
          have HM := Lib.hid hm
          have HPR := Lib.hid hpre
          clear hm hpre
          by_cases hlast : (m : Int) + 1 = st
          · have hl2 : ((m : Int) + 1 == st) = true := by simpa using hlast
            rw [hlast] at REL
            gi_wp2
            obtain ⟨k7, k8, k9, k10⟩ := REL.out
            exact ⟨k7.up (by omega), rfl, k8, k9, by simp⟩
          · have hl2 : ((m : Int) + 1 == st) = false := by simpa using hlast
            gi_wp2
            obtain ⟨k7, k8, k9, k10⟩ := REL.out
            exact ⟨k7, k8, k9, k10, by rw [World.frozen?_setCell, World.frozen?_setCell]; exact q4, by rw [World.frozen?_setCell, World.frozen?_setCell]; exact q5, by rw [List.length_append, HM.out]; simp only [List.length_cons, List.length_nil]; omega, Or.inr (by simp [lastOf])⟩
        · have hn0 : 0 < (pre.length : Int) := by have := List.length_pos_iff.mpr hpre; omega
          have hla : (lastOf pre : Int) < a := by
            have := HR.out _ (HS.out.resolve_left hpre)
            omega
          have hlb2 : decide ((a : Int) ≤ (lastOf pre : Int)) = false := decide_eq_false (by omega)
          have hn2 : decide (0 < (pre.length : Int)) = true := decide_eq_true hn0
          have hn3 : decide (0 < pre.length) = true := decide_eq_true (by omega)
          have hlb3 : decide (a ≤ lastOf pre) = false := decide_eq_false (by omega)
          repeat (gi_big_quiet_step (fail))
          refine Go.BigFrame.wpQuietIn_want (fun _ _ _ _ => trivial) rfl (fun K hK => ?_)
          gi_big_quiet_op
          refine ⟨spotV (q, t), fun y => ⟨rfl, quiet_moreIn (DC.out (moreOf W6 y))⟩, hK _ ?_⟩
          clear hK K
          repeat (gi_big_quiet_step (fail))
          refine wpQuietIn_nil ?_
          rintro _ ⟨y, rfl⟩
          obtain ⟨q2, q3, q4, q5, q6, q7, q8, q9, q10⟩ := TAIL.out _ (below_more y)
          obtain ⟨W7, hW7⟩ : ∃ W7, W7 = moreOf W6 y := ⟨_, rfl⟩
          rw [← hW7] at q2 q3 q4 q5 q6 q7 q8 q9 q10 ⊢
          clear hW7 p2 p3 p4 p5 PN PA TAIL DC hn2 hn3 hlb2 hlb3
          have REL := Lib.hid (⟨q7, q8, q9, q10⟩ : _ ∧ _ ∧ _ ∧ _)
          clear q7 q8 q9 q10
          obtain ⟨m, hm⟩ : ∃ m, pre.length = m := ⟨_, rfl⟩
          rw [hm] at q2 wlen p6 ln4 REL
          have HM := Lib.hid hm
          have HPR := Lib.hid hpre
          clear hm hpre
          by_cases hlast : (m : Int) + 1 = st
          · have hl2 : ((m : Int) + 1 == st) = true := by simpa using hlast
            rw [hlast] at REL
            gi_wp2
            obtain ⟨k7, k8, k9, k10⟩ := REL.out
            exact ⟨k7.up (by omega), rfl, k8, k9, by simp⟩
          · have hl2 : ((m : Int) + 1 == st) = false := by simpa using hlast
            gi_wp2
            obtain ⟨k7, k8, k9, k10⟩ := REL.out
            exact ⟨k7, k8, k9, k10, by rw [World.frozen?_setCell, World.frozen?_setCell]; exact q4, by rw [World.frozen?_setCell, World.frozen?_setCell]; exact q5, by rw [List.length_append, HM.out]; simp only [List.length_cons, List.length_nil]; omega, Or.inr (by simp [lastOf])⟩
      case done =>
        rintro xs W6 hS ⟨p1, p2, p3, p4, p5, p6, p7⟩ hD
        obtain ⟨m, hm⟩ : ∃ m, xs.length = m := ⟨_, rfl⟩
        rw [hm] at p2
        have NP : Hid (q = 1 → 0 ≤ t → t < n → t < 32768 → lay = 1 → 0 < m) := by
          intro h1 h2 h3 h4 h5
          subst h5
          have := hS (32768 + t.toNat) (by omega) (by rw [h1, show (((32768 + t.toNat : Nat) : Int)) = 32768 + t by omega]; exact lo_at n r t h2 h3 h4) (by omega)
          rw [← hm]
          exact List.length_pos_of_mem this
        clear hS hm
        subst hA
        have v0 := keepC p1 v0
        have x0 := keepC p1 x0
        have x1 := keepC p1 x1
        have x3 := keepC p1 x3
        have xr := keepC p1 xr
        have f3 : W6.frozen? ⟨b3, 0, none⟩ = false := (p1.frozen (p := ⟨b3, 0, none⟩) lt3).trans f3
        have lb := World.block_lt_of_cell? _ _ v0
        have lb1 := World.block_lt_of_cell? _ _ x0
        have lb3 := World.block_lt_of_cell? _ _ x3
        have lbr := World.block_lt_of_cell? _ _ xr
        have lbn := World.block_lt_of_cell? _ _ p2
        have lD := (Array.getElem?_eq_some_iff.1 hD).1
        simp only at lb lb1 lb3 lbr lbn
        have FB : Hid (∀ v, Below w.heap.size w ((W6.setCell ⟨b3, 0, none⟩ v).putObj W5.heap.size (.deferred none))) := by
          intro v
          have h := belowS (HB4.out.trans (p1.mono HB4.out.size)) (p := ⟨b3, 0, none⟩) (by show w.heap.size ≤ b3; omega) v
          exact h.trans (below_putObj _ _ _ (by have := HB4.out.size; omega) h.size)
        have hD2 : ∀ v, (W6.setCell ⟨b3, 0, none⟩ v).heap[W5.heap.size]? = some (.deferred (some [])) := fun v => (Below.heap_setCell _ _ _ _ (by show W5.heap.size ≠ b3; omega)).trans hD
        have HD2 := Lib.hid hD2
        have RES : Hid (∀ v, ((W6.setCell ⟨b3, 0, none⟩ v).putObj W5.heap.size (.deferred none)).cell? ⟨b3, 0, none⟩ = some v) := by
          intro v
          rw [World.cell?_of_block (w := W6.setCell ⟨b3, 0, none⟩ v) (World.putObj_heap_other (by show b3 ≠ W5.heap.size; omega))]
          exact World.cell?_setCell_same' _ _ _ (by rw [x3]; rfl)
        rw [hs5] at FB HD2 RES
        clear hD hD2 p1
        have SP := Lib.hid (split5 q t lay n)
        rcases SP.out with h | ⟨h, k⟩ | ⟨h, k, k'⟩ | ⟨h, k, k', k''⟩ | ⟨h, k, k', k'', k3'⟩ | ⟨h, k, k', k'', k3'⟩
        ·
          have hq : (q == 1) = false := by simpa using h
          gi_wp2
          refine ⟨by simp, .inl ⟨_, _, rfl, run_takeDeferred (HD2.out _), ?_⟩⟩
          refine ⟨.bool true, ?_, rfl, FB.out _⟩
          have := RES.out (.bool true)
          simp [results, Try.results9, go_sem, this]
        ·
          subst h
          have k2 : decide (0 ≤ t) = false := decide_eq_false (by omega)
          gi_wp2
          refine ⟨by simp, .inl ⟨_, _, rfl, run_takeDeferred (HD2.out _), ?_⟩⟩
          refine ⟨.bool true, ?_, rfl, FB.out _⟩
          have := RES.out (.bool true)
          simp [results, Try.results9, go_sem, this]
        ·
          subst h
          have k2 : decide (t < (n : Int)) = false := decide_eq_false (by omega)
          gi_wp2
          refine ⟨by simp, .inl ⟨_, _, rfl, run_takeDeferred (HD2.out _), ?_⟩⟩
          refine ⟨.bool true, ?_, rfl, FB.out _⟩
          have := RES.out (.bool true)
          simp [results, Try.results9, go_sem, this]
        ·
          subst h
          have k2 : decide (t < 32768) = false := decide_eq_false (by omega)
          gi_wp2
          refine ⟨by simp, .inl ⟨_, _, rfl, run_takeDeferred (HD2.out _), ?_⟩⟩
          refine ⟨.bool true, ?_, rfl, FB.out _⟩
          have := RES.out (.bool true)
          simp [results, Try.results9, go_sem, this]
        ·
          subst h
          have k2 : (lay == 1) = false := by simpa using k3'
          gi_wp2
          refine ⟨by simp, .inl ⟨_, _, rfl, run_takeDeferred (HD2.out _), ?_⟩⟩
          refine ⟨.bool true, ?_, rfl, FB.out _⟩
          have := RES.out (.bool true)
          simp [results, Try.results9, go_sem, this]
        ·
          subst h k3'
          have hmm := NP.out rfl k k' k'' rfl
          have hm2 : decide (0 < (m : Int)) = true := decide_eq_true (by omega)
          gi_wp2
          refine ⟨by simp, .inl ⟨_, _, rfl, run_takeDeferred (HD2.out _), ?_⟩⟩
          refine ⟨.bool true, ?_, rfl, FB.out _⟩
          have := RES.out (.bool true)
          simp [results, Try.results9, go_sem, this]
      case stop =>
        rintro c pre W6 _ ⟨rfl, p1, p2, p3⟩ hD
        obtain ⟨m, hm⟩ : ∃ m, pre.length = m := ⟨_, rfl⟩
        rw [hm] at p2 p3
        have NP : Hid (q = 1 → 0 ≤ t → t < n → t < 32768 → lay = 1 → 0 < m) := fun _ _ _ _ _ => p3
        clear hm
        subst hA
        have v0 := keepC p1 v0
        have x0 := keepC p1 x0
        have x1 := keepC p1 x1
        have x3 := keepC p1 x3
        have xr := keepC p1 xr
        have f3 : W6.frozen? ⟨b3, 0, none⟩ = false := (p1.frozen (p := ⟨b3, 0, none⟩) lt3).trans f3
        have lb := World.block_lt_of_cell? _ _ v0
        have lb1 := World.block_lt_of_cell? _ _ x0
        have lb3 := World.block_lt_of_cell? _ _ x3
        have lbr := World.block_lt_of_cell? _ _ xr
        have lbn := World.block_lt_of_cell? _ _ p2
        have lD := (Array.getElem?_eq_some_iff.1 hD).1
        simp only at lb lb1 lb3 lbr lbn
        have FB : Hid (∀ v, Below w.heap.size w ((W6.setCell ⟨b3, 0, none⟩ v).putObj W5.heap.size (.deferred none))) := by
          intro v
          have h := belowS (HB4.out.trans (p1.mono HB4.out.size)) (p := ⟨b3, 0, none⟩) (by show w.heap.size ≤ b3; omega) v
          exact h.trans (below_putObj _ _ _ (by have := HB4.out.size; omega) h.size)
        have hD2 : ∀ v, (W6.setCell ⟨b3, 0, none⟩ v).heap[W5.heap.size]? = some (.deferred (some [])) := fun v => (Below.heap_setCell _ _ _ _ (by show W5.heap.size ≠ b3; omega)).trans hD
        have HD2 := Lib.hid hD2
        have RES : Hid (∀ v, ((W6.setCell ⟨b3, 0, none⟩ v).putObj W5.heap.size (.deferred none)).cell? ⟨b3, 0, none⟩ = some v) := by
          intro v
          rw [World.cell?_of_block (w := W6.setCell ⟨b3, 0, none⟩ v) (World.putObj_heap_other (by show b3 ≠ W5.heap.size; omega))]
          exact World.cell?_setCell_same' _ _ _ (by rw [x3]; rfl)
        rw [hs5] at FB HD2 RES
        clear hD hD2 p1
        have SP := Lib.hid (split5 q t lay n)
        rcases SP.out with h | ⟨h, k⟩ | ⟨h, k, k'⟩ | ⟨h, k, k', k''⟩ | ⟨h, k, k', k'', k3'⟩ | ⟨h, k, k', k'', k3'⟩
        ·
          have hq : (q == 1) = false := by simpa using h
          gi_wp2
          refine ⟨by simp, .inl ⟨_, _, rfl, run_takeDeferred (HD2.out _), ?_⟩⟩
          refine ⟨.bool true, ?_, rfl, FB.out _⟩
          have := RES.out (.bool true)
          simp [results, Try.results9, go_sem, this]
        ·
          subst h
          have k2 : decide (0 ≤ t) = false := decide_eq_false (by omega)
          gi_wp2
          refine ⟨by simp, .inl ⟨_, _, rfl, run_takeDeferred (HD2.out _), ?_⟩⟩
          refine ⟨.bool true, ?_, rfl, FB.out _⟩
          have := RES.out (.bool true)
          simp [results, Try.results9, go_sem, this]
        ·
          subst h
          have k2 : decide (t < (n : Int)) = false := decide_eq_false (by omega)
          gi_wp2
          refine ⟨by simp, .inl ⟨_, _, rfl, run_takeDeferred (HD2.out _), ?_⟩⟩
          refine ⟨.bool true, ?_, rfl, FB.out _⟩
          have := RES.out (.bool true)
          simp [results, Try.results9, go_sem, this]
        ·
          subst h
          have k2 : decide (t < 32768) = false := decide_eq_false (by omega)
          gi_wp2
          refine ⟨by simp, .inl ⟨_, _, rfl, run_takeDeferred (HD2.out _), ?_⟩⟩
          refine ⟨.bool true, ?_, rfl, FB.out _⟩
          have := RES.out (.bool true)
          simp [results, Try.results9, go_sem, this]
        ·
          subst h
          have k2 : (lay == 1) = false := by simpa using k3'
          gi_wp2
          refine ⟨by simp, .inl ⟨_, _, rfl, run_takeDeferred (HD2.out _), ?_⟩⟩
          refine ⟨.bool true, ?_, rfl, FB.out _⟩
          have := RES.out (.bool true)
          simp [results, Try.results9, go_sem, this]
        ·
          subst h k3'
          have hmm := NP.out rfl k k' k'' rfl
          have hm2 : decide (0 < (m : Int)) = true := decide_eq_true (by omega)
          gi_wp2
          refine ⟨by simp, .inl ⟨_, _, rfl, run_takeDeferred (HD2.out _), ?_⟩⟩
          refine ⟨.bool true, ?_, rfl, FB.out _⟩
          have := RES.out (.bool true)
          simp [results, Try.results9, go_sem, this]
  · have e3 := keepC hb s3
    have y3 : w2.frozen? ⟨b3, 0, none⟩ = false := (hb.frozen (p := ⟨b3, 0, none⟩) (by show b3 < W1.heap.size; omega)).trans z3
    have HBB := Lib.hid (cb.trans (hb.mono cb.size))
    have hlt3 : b3 < w2.heap.size := World.block_lt_of_cell? _ _ e3
    have hb3w : w.heap.size ≤ b3 := by have := HB.out; have := HB3.out; omega
    clear hb can s0 s1 s2 s3 c0 c2 z2 z3 cb
    gi_wp2
    refine ⟨.bool true, ?_, rfl, belowA (belowS HBB.out hb3w _) _⟩
    simp [results, Try.results9, go_sem, hlt3, e3]
end Go.Proofs.Ytbfpacngphjkcaa.boardWheres
