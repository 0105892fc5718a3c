/- The walk of the law BoardRuns. -/
import Derived.Test.YtbfpacngphjkcaaBoardO
import Derived.Test.YtbfpacngphjkcaaBoardS
import Derived.Test.YtbfpacngphjkcaaOpen
namespace Go.Proofs.Ytbfpacngphjkcaa.boardRuns
open Go.RowKit Go.ChangeShapes
set_option linter.unusedVariables false
set_option linter.unusedSimpArgs false

/-- What holds at each round's head. -/
structure Rel (w wr : World) (B lay_ : Nat) (lay : Int) (B1 gb gr gm ga gc n cap r g0 gq : Nat) (f h : Nat → Int) : Prop where
  q : Arr wr .u8 5 gq r h
  bd : BoardIn wr B1 lay gb gr gm ga gc n cap r f h
  rom : Arr wr .u8 5 g0 n f
  bel : Below w.heap.size w wr
  c0 : wr.cell? ⟨B, 0, none⟩ = some (.int .u8 lay)
  c2 : wr.cell? ⟨B, 2, none⟩ = some (.int .i64 r)

theorem Rel.kept {w wr w' : World} {B l : Nat} {lay : Int} {B1 gb gr gm ga gc n cap r g0 gq : Nat} {f h : Nat → Int} (R : Rel w wr B l lay B1 gb gr gm ga gc n cap r g0 gq f h) (k : Below wr.heap.size wr w') : Rel w w' B l lay B1 gb gr gm ga gc n cap r g0 gq f h :=
  ⟨R.q.kept k, R.bd.kept k, R.rom.kept k, belowStep R.bel k, keepC k R.c0, keepC k R.c2⟩
theorem keepU {w w' : World} {g : Nat} {a : Addr} {v : Value} (hu : Upd w g w') (h : w.cell? a = some v) (hn : a.block ≠ g) : w'.cell? a = some v := by
  rw [← h]; exact hu.cell (World.block_lt_of_cell? _ _ h) hn

set_option maxRecDepth 100000 in
set_option maxHeartbeats 2000000 in
theorem law (lay rom ram by_ : Int) (v : Value) (m : Nat) (f0 f1 f2 : Nat → Int) (w : World) (S : Sees3 w .i64 .u32 .u8 v m f0 f1 f2) (hm : m ≤ 9223372036854775807) (hw1 : ∀ j, j < m → 0 ≤ f1 j ∧ f1 j ≤ 4294967295) (l0 : 0 ≤ lay) (l1 : lay ≤ 255) (y0 : 0 ≤ by_) (y1 : by_ ≤ 255) (r0 : -9223372036854775808 ≤ rom) (r1 : rom ≤ 9223372036854775807) :
    Calls Try.prog 10 #[planV lay rom ram by_, v] w fun e w' => e = .returned (.bool true) ∧ Below w.heap.size w w' := by
  obtain ⟨ao, cc, rfl, hsee⟩ := S
  have Z := Lib.hid hsee
  have HW1 := Lib.hid hw1
  clear hsee hw1
  go_enter Try.func10, Try.ntmps10
  try simp only [List.append_eq, List.cons_append, List.nil_append]
  go_wp2_with fail
  refine (made_any lay rom ram by_ _ l0 l1 y0 y1 r0 r1).mono ?_
  have hle := romN_le rom
  obtain ⟨n, hn⟩ : ∃ n, romN rom = n := ⟨_, rfl⟩
  rw [hn] at hle ⊢
  have HN := Lib.hid hn
  clear hn
  obtain ⟨W1, hW⟩ : ∃ W1, W1 = w.alloc (.cells #[.int .u8 lay, .int .i64 rom, .int .i64 ram, .int .u8 by_] 23) := ⟨_, rfl⟩
  obtain ⟨B, hB⟩ : ∃ B, B = w.heap.size := ⟨_, rfl⟩
  have c0 : W1.cell? ⟨B, 0, none⟩ = some (.int .u8 lay) := by rw [hW, hB]; simp [go_sem]
  have c2 : W1.cell? ⟨B, 2, none⟩ = some (.int .i64 ram) := by rw [hW, hB]; simp [go_sem]
  have cb : Below w.heap.size w W1 := by rw [hW]; exact belowA (Below.refl _ _) _
  rw [← hW, ← hB]
  rintro e w2 (⟨can, gb, gr, gm, ga, gc, cap, g0, f, rfl, bd, a0, hg0, hne, hb⟩ | ⟨can, g0, rfl, hb⟩)
  · unfold canB at can
    obtain ⟨b1, b2, b3, b4, b5, b6⟩ := of_decide_eq_true can
    obtain ⟨r, rfl⟩ := Int.eq_ofNat_of_zero_le b5
    rw [Int.toNat_natCast] at bd
    have b6' : r ≤ 524288 := by omega
    have hmk := makeU8 r (by omega)
    have hB1 : B < W1.heap.size := World.block_lt_of_cell? _ _ c0
    have hla := bd.la
    have hlb := bd.lb
    have hlr := bd.lr
    have hlm := bd.lm
    have hlc := bd.lc
    have hga := bd.ram.lt
    have NQ := Lib.hid (bd.lts (Nat.le_refl _))
    have hlt0 := a0.lt
    have R0 : Hid (Rel w (w2.alloc (.cells (zeros .u8 r) 5)) B 0 lay W1.heap.size gb gr gm ga gc n cap r g0 w2.heap.size f (fun _ => 0)) :=
      ⟨Arr.zero _ _ _ _, bd.kept (belowA (Below.refl _ _) _), a0.alloc _, belowA (belowStep cb hb) _, keepAlloc (keepC hb c0) _, keepAlloc (keepC hb c2) _⟩
    have d2 := keepC hb c2
    have hsz := (belowStep cb hb).size
    have HE := Lib.hid hB
    clear can bd a0 hb c0 c2 cb hW hB b5
    go_wp2_with fail
    obtain ⟨gq, hgq⟩ : ∃ gq, gq = w2.heap.size := ⟨_, rfl⟩
    obtain ⟨W3, hW3⟩ : ∃ W3, W3 = w2.alloc (.cells (zeros .u8 r) 5) := ⟨_, rfl⟩
    rw [← hgq, ← hW3] at R0 ⊢
    have hq0 : w.heap.size ≤ gq := by omega
    have hq1 : ga ≠ gq ∧ g0 ≠ gq ∧ g0 ≠ ga ∧ B ≠ gq ∧ B ≠ ga ∧ w.heap.size ≤ ga := by have := HE.out; omega
    obtain ⟨n1, n2, n3, n4, n5, n6⟩ := hq1
    rw [← hgq] at NQ
    clear hgq hW3 d2 hmk
    go_loopw [9] (fun i wr => ∃ (k : Nat) (h : Nat → Int), i = .int .i64 k ∧ k ≤ m ∧ Rel w wr B 0 lay W1.heap.size gb gr gm ga gc n cap r g0 gq f h) (fun i _ => m - (intOf i).toNat)
    case atStart => exact ⟨0, _, rfl, Nat.zero_le _, R0.out⟩
    case round =>
      obtain ⟨k, h, rfl, hk, hrel⟩ := hrel
      have R := Lib.hid hrel
      clear R0 hrel
      by_cases hlt : k < m
      · obtain ⟨bb, off, rfl, hcl⟩ := Z.out.resolve_left (by omega)
        have hbb : bb < w.heap.size := World.block_lt_of_cell? _ _ (hcl k hlt).1
        have x0 : wr.cell? ⟨bb, off + k * 3, none⟩ = some (.int .i64 (f0 k)) := by rw [← (hcl k hlt).1]; exact R.out.bel.cell (p := ⟨bb, off + k * 3, none⟩) hbb
        have x1 : wr.cell? ⟨bb, off + k * 3 + 1, none⟩ = some (.int .u32 (f1 k)) := by rw [← (hcl k hlt).2.1]; exact R.out.bel.cell (p := ⟨bb, off + k * 3 + 1, none⟩) hbb
        have x2 : wr.cell? ⟨bb, off + k * 3 + 2, none⟩ = some (.int .u8 (f2 k)) := by rw [← (hcl k hlt).2.2]; exact R.out.bel.cell (p := ⟨bb, off + k * 3 + 2, none⟩) hbb
        have hy := HW1.out k hlt
        have tB : B < wr.heap.size := World.block_lt_of_cell? _ _ R.out.c0
        have tq : gq < wr.heap.size := R.out.q.lt
        have t0 : g0 < wr.heap.size := R.out.rom.lt
        have tb : gb < wr.heap.size := World.block_lt_of_cell? _ _ R.out.bd.cells.b0
        have ta : ga < wr.heap.size := R.out.bd.ram.lt
        have c0 := R.out.c0
        have c2 := R.out.c2
        clear hcl
        obtain ⟨wt, hwt⟩ : ∃ x, f0 k = x := ⟨_, rfl⟩
        obtain ⟨y, hyy⟩ : ∃ x, f1 k = x := ⟨_, rfl⟩
        obtain ⟨vv, hvv⟩ : ∃ x, f2 k = x := ⟨_, rfl⟩
        rw [hwt] at x0
        rw [hyy] at x1 hy
        rw [hvv] at x2
        obtain ⟨yl, yh⟩ := hy
        clear hwt hyy hvv
        have hs := spotAt_is lay n r y b3 b4
        obtain ⟨⟨sk, sa⟩, hsp⟩ : ∃ s, spotAt lay n r y = s := ⟨_, rfl⟩
        rw [hsp] at hs
        have RD : Hid (∀ wx : World, Calls Try.prog 20 #[.int .u8 lay, .int .i64 n, .int .i64 r, .int .u32 y] wx fun e w' => e = .returned (.agg #[.int .u8 sk, .int .i64 sa]) ∧ Below wx.heap.size wx w') := fun wx => by
          have := rdec_any y lay n r wx yl yh b6' b3 b4
          rw [show spot lay n r (y / 65536 % 256) (y % 65536) = (sk, sa) from hsp] at this
          exact this
        go_wp2_with fail
        refine (RD.out _).mono ?_
        rintro e w3 ⟨rfl, hb3⟩
        go_wp2_with fail
        -- the op and the spot lie in blocks of their own
        obtain ⟨W4, hW4⟩ : ∃ W4, W4 = w3.alloc (.cells #[.int .u8 sk, .int .i64 sa] 40) := ⟨_, rfl⟩
        obtain ⟨G1, hG1⟩ : ∃ G1, G1 = wr.heap.size := ⟨_, rfl⟩
        obtain ⟨G2, hG2⟩ : ∃ G2, G2 = w3.heap.size := ⟨_, rfl⟩
        have kb1 : Below wr.heap.size wr (wr.alloc (.cells #[.int .i64 wt, .int .u32 y, .int .u8 vv] 45)) := belowA (Below.refl _ _) _
        have kb : Below wr.heap.size wr W4 := by rw [hW4]; exact belowA (belowStep kb1 hb3) _
        have o4 : Blk W4 G1 45 #[.int .i64 wt, .int .u32 y, .int .u8 vv] := by rw [hW4, hG1]; exact ((Blk.new wr _ _).kept hb3).alloc _
        have s4 : Blk W4 G2 40 #[.int .u8 sk, .int .i64 sa] := by rw [hW4, hG2]; exact Blk.new _ _ _
        have p0 : W4.cell? ⟨G1, 0, none⟩ = some (.int .i64 wt) := o4.cell 0
        have p1 : W4.cell? ⟨G1, 1, none⟩ = some (.int .u32 y) := o4.cell 1
        have p2 : W4.cell? ⟨G1, 2, none⟩ = some (.int .u8 vv) := o4.cell 2
        have p3 : W4.cell? ⟨G2, 0, none⟩ = some (.int .u8 sk) := s4.cell 0
        have p4 : W4.cell? ⟨G2, 1, none⟩ = some (.int .i64 sa) := s4.cell 1
        have tG1 : G1 < W4.heap.size := o4.lt
        have tG2 : G2 < W4.heap.size := s4.lt
        have tG3 : wr.heap.size ≤ G1 := by omega
        have tG4 : wr.heap.size ≤ G2 := by have := (belowStep kb1 hb3).size; omega
        have tsz := kb.size
        rw [← hW4, ← hG1, ← hG2]
        have R4 : Hid (Rel w W4 B 0 lay W1.heap.size gb gr gm ga gc n cap r g0 gq f h) :=
          ⟨R.out.q.kept kb, R.out.bd.kept kb, R.out.rom.kept kb, belowStep R.out.bel kb, keepC kb R.out.c0, keepC kb R.out.c2⟩
        clear kb kb1 hb3 hW4 hG1 hG2 o4 s4 c0 c2 x0 x1 x2 R
        have d4 : Hid (∀ z : Ext, Calls Try.prog 19 #[.pointer (some ⟨gb, 0, none⟩), .int .u32 y] (moreOf W4 z) fun e w' => e = .returned (.agg #[.int .u8 sk, .int .i64 sa]) ∧ Below (moreOf W4 z).heap.size (moreOf W4 z) w') := fun z => by
          have := dec_any y lay gb gr gm ga gc n cap r _ (R4.out.bd.kept (below_more z)).cells yl yh b6' b3 b4
          rw [show spot lay n r (y / 65536 % 256) (y % 65536) = (sk, sa) from hsp] at this
          exact this
        have HSP := Lib.hid hsp
        clear hsp
        refine wp_region_more (by kernel_rfl) (by kernel_rfl) ?_
        repeat (go_big_quiet_step ((go_at_call 19; exact quiet_more (d4.out _))))
        refine wpQuiet_nil ?_
        rintro _ ⟨nq, rfl⟩
        obtain ⟨W5, hW5⟩ : ∃ W5, W5 = moreOf W4 nq := ⟨_, rfl⟩
        have kb : Below W4.heap.size W4 W5 := by rw [hW5]; exact below_more _
        have p0 := keepC kb p0
        have p1 := keepC kb p1
        have p2 := keepC kb p2
        have p3 := keepC kb p3
        have p4 := keepC kb p4
        have tsz2 := kb.size
        have R5 : Hid (Rel w W5 B 0 lay W1.heap.size gb gr gm ga gc n cap r g0 gq f h) :=
          ⟨R4.out.q.kept kb, R4.out.bd.kept kb, R4.out.rom.kept kb, belowStep R4.out.bel kb, keepC kb R4.out.c0, keepC kb R4.out.c2⟩
        rw [← hW5]
        clear kb hW5 R4 d4 RD
        by_cases hw0 : wt = 0
        · subst hw0
          have rd := read_any y lay _ gb gr gm ga gc n cap r f h W5 R5.out.bd yl yh b6' b3 b4
          rw [HSP.out] at rd
          rcases hs with e | ⟨kk, hkk, e⟩ | ⟨kk, hkk, e⟩
          · cases e
            have RDD := Lib.hid rd
            clear rd
            go_wp2_with fail
            refine RDD.out.mono ?_
            rintro e w6 ⟨rfl, hb6⟩
            have p3 := keepC hb6 p3
            have R6 := Lib.hid (R5.out.kept hb6)
            clear hb6 R5 RDD
            rw [show byteOf f h (0, 0) = 0 by simp [byteOf], show decide ((0 : Int) ≠ 0) = false by decide]
            go_wp2_with fail
            go_roundw
            case rel => exact ⟨k + 1, h, by go_num, by omega, R6.out⟩
            case measure => simp [intOf]; omega
          · cases e
            obtain ⟨z, hz⟩ : ∃ z, f kk = z := ⟨_, rfl⟩
            rw [show byteOf f h (1, (kk : Int)) = z by simp [byteOf, hz], show decide ((1 : Int) ≠ 0) = true by decide] at rd
            have RDD := Lib.hid rd
            have HZ := Lib.hid hz
            clear rd hz
            go_wp2_with fail
            refine RDD.out.mono ?_
            rintro e w6 ⟨rfl, hb6⟩
            have p3 := keepC hb6 p3
            have p4 := keepC hb6 p4
            have R6 := Lib.hid (R5.out.kept hb6)
            have pz : w6.cell? ⟨g0, kk, none⟩ = some (.int .u8 z) := by rw [← HZ.out]; exact R6.out.rom.cell hkk
            have q1 : (0 : Int) ≤ ↑kk := by omega
            have q2 : (kk : Int) < ↑n := by omega
            clear hb6 R5 RDD
            go_wp2_with fail
            go_roundw
            case rel => exact ⟨k + 1, h, by go_num, by omega, R6.out⟩
            case measure => simp [intOf]; omega
          · cases e
            obtain ⟨z, hz⟩ : ∃ z, h kk = z := ⟨_, rfl⟩
            rw [show byteOf f h (2, (kk : Int)) = z by simp [byteOf, hz], show decide ((2 : Int) ≠ 0) = true by decide] at rd
            have RDD := Lib.hid rd
            have HZ := Lib.hid hz
            clear rd hz
            go_wp2_with fail
            refine RDD.out.mono ?_
            rintro e w6 ⟨rfl, hb6⟩
            have p3 := keepC hb6 p3
            have p4 := keepC hb6 p4
            have R6 := Lib.hid (R5.out.kept hb6)
            have pz : w6.cell? ⟨gq, kk, none⟩ = some (.int .u8 z) := by rw [← HZ.out]; exact R6.out.q.cell hkk
            have q1 : (0 : Int) ≤ ↑kk := by omega
            have q2 : (kk : Int) < ↑r := by omega
            clear hb6 R5 RDD
            go_wp2_with fail
            go_roundw
            case rel => exact ⟨k + 1, h, by go_num, by omega, R6.out⟩
            case measure => simp [intOf]; omega
        · have qw : (wt == 0) = false := by simpa using hw0
          clear hw0
          have ng1 : G1 ≠ ga := by omega
          have ng2 : G2 ≠ ga := by omega
          rcases hs with e | ⟨kk, hkk, e⟩ | ⟨kk, hkk, e⟩
          ·
            cases e
            go_wp2_with fail
            go_region_held3 (fun w' => w'.cell? ⟨G1, 1, none⟩ = some (.int .u32 y) ∧ w'.cell? ⟨G1, 2, none⟩ = some (.int .u8 vv) ∧ w'.cell? ⟨G2, 0, none⟩ = some (.int .u8 0))
              (first
                | exact ⟨p1, p2, p3⟩
                | (go_split_ands; (with_reducible exact ⟨keepU hu (by assumption) ng1, keepU hu (by assumption) ng1, keepU hu (by assumption) ng2⟩)))
              (first
                | (go_at_call 18; refine (write_any y vv lay W1.heap.size gb gr gm ga gc n cap r f h _ (R5.out.bd.kept (belowD (Below.refl _ _))) yl yh b6' b3 b4).mono ?_; unfold Wrote; rw [HSP.out]; rintro e w' ⟨rfl, ha, hu⟩; have HA := Lib.hid ha; clear ha))
            go_split_ands
            go_wp2_with fail
            go_roundw
            case rel =>
              refine ⟨k + 1, putOf h (0, 0) vv, by go_num, by omega, ?_⟩
              have hu2 := (Upd.drew (Upd.refl W5 ga)).trans hu
              exact ⟨hu2.arr R5.out.q (Ne.symm n1), R5.out.bd.upd hu2 HA.out, hu2.arr R5.out.rom n3, hu2.out R5.out.bel n6, keepU hu2 R5.out.c0 n5, keepU hu2 R5.out.c2 n5⟩
            case measure => simp [intOf]; omega
          ·
            cases e
            go_wp2_with fail
            go_region_held3 (fun w' => w'.cell? ⟨G1, 1, none⟩ = some (.int .u32 y) ∧ w'.cell? ⟨G1, 2, none⟩ = some (.int .u8 vv) ∧ w'.cell? ⟨G2, 0, none⟩ = some (.int .u8 1))
              (first
                | exact ⟨p1, p2, p3⟩
                | (go_split_ands; (with_reducible exact ⟨keepU hu (by assumption) ng1, keepU hu (by assumption) ng1, keepU hu (by assumption) ng2⟩)))
              (first
                | (go_at_call 18; refine (write_any y vv lay W1.heap.size gb gr gm ga gc n cap r f h _ (R5.out.bd.kept (belowD (Below.refl _ _))) yl yh b6' b3 b4).mono ?_; unfold Wrote; rw [HSP.out]; rintro e w' ⟨rfl, ha, hu⟩; have HA := Lib.hid ha; clear ha))
            go_split_ands
            go_wp2_with fail
            go_roundw
            case rel =>
              refine ⟨k + 1, putOf h (1, (kk : Int)) vv, by go_num, by omega, ?_⟩
              have hu2 := (Upd.drew (Upd.refl W5 ga)).trans hu
              exact ⟨hu2.arr R5.out.q (Ne.symm n1), R5.out.bd.upd hu2 HA.out, hu2.arr R5.out.rom n3, hu2.out R5.out.bel n6, keepU hu2 R5.out.c0 n5, keepU hu2 R5.out.c2 n5⟩
            case measure => simp [intOf]; omega
          · cases e
            have q1 : (0 : Int) ≤ ↑kk := by omega
            have q2 : (kk : Int) < ↑r := by omega
            have g1 := R5.out.q.cell hkk
            have g2 := R5.out.q.frozen kk
            have tq5 : gq < W5.heap.size := R5.out.q.lt
            have hu0 := (Upd.refl W5 gq).set kk (.int .u8 vv)
            have nG1 : G1 ≠ gq := by omega
            have nG2 : G2 ≠ gq := by omega
            have Q6 := Lib.hid (R5.out.q.set hkk vv)
            have BD6 := Lib.hid (R5.out.bd.other hu0 NQ.out)
            have RM6 := Lib.hid (hu0.arr R5.out.rom n2)
            have BL6 := Lib.hid (hu0.out R5.out.bel hq0)
            have C06 := Lib.hid (keepU hu0 R5.out.c0 n4)
            have C26 := Lib.hid (keepU hu0 R5.out.c2 n4)
            have s1 := keepU hu0 p1 nG1
            have s2 := keepU hu0 p2 nG1
            have s3 := keepU hu0 p3 nG2
            obtain ⟨W6, hW6⟩ : ∃ W6, W6 = W5.setCell ⟨gq, kk, none⟩ (.int .u8 vv) := ⟨_, rfl⟩
            rw [← hW6] at Q6 BD6 RM6 BL6 C06 C26 s1 s2 s3
            have HW6 := Lib.hid hW6
            clear hu0 hW6
            go_wp2_with fail
            rw [← HW6.out]
            clear HW6 p0 p1 p2 p3 p4 g1 g2
            go_region_held3 (fun w' => w'.cell? ⟨G1, 1, none⟩ = some (.int .u32 y) ∧ w'.cell? ⟨G1, 2, none⟩ = some (.int .u8 vv) ∧ w'.cell? ⟨G2, 0, none⟩ = some (.int .u8 2))
              (first
                | exact ⟨s1, s2, s3⟩
                | (go_split_ands; (with_reducible exact ⟨keepU hu (by assumption) ng1, keepU hu (by assumption) ng1, keepU hu (by assumption) ng2⟩)))
              (first
                | (go_at_call 18; refine (write_any y vv lay W1.heap.size gb gr gm ga gc n cap r f h _ (BD6.out.kept (belowD (Below.refl _ _))) yl yh b6' b3 b4).mono ?_; unfold Wrote; rw [HSP.out]; rintro e w' ⟨rfl, ha, hu⟩; have HA := Lib.hid ha; clear ha))
            go_split_ands
            go_wp2_with fail
            go_roundw
            case rel =>
              refine ⟨k + 1, putOf h (2, (kk : Int)) vv, by go_num, by omega, ?_⟩
              have hu2 := (Upd.drew (Upd.refl W6 ga)).trans hu
              exact ⟨hu2.arr Q6.out (Ne.symm n1), BD6.out.upd hu2 HA.out, hu2.arr RM6.out n3, hu2.out BL6.out n6, keepU hu2 C06.out n5, keepU hu2 C26.out n5⟩
            case measure => simp [intOf]; omega
      · go_wp2_with fail
        refine (ram_any lay W1.heap.size gb gr gm ga gc n cap r f h _ R.out.bd b6').mono ?_
        rintro e w3 ⟨gR, cR, rfl, hR1, hR2, hR3⟩
        have HR := Lib.hid hR2
        have tq : gq < wr.heap.size := R.out.q.lt
        have NR := Lib.hid (R.out.bd.lts hR1)
        have HQ := Lib.hid (R.out.q.kept hR3)
        have HBD := Lib.hid (R.out.bd.kept hR3)
        have HB := Lib.hid (belowStep R.out.bel hR3)
        have hsz3 := R.out.bel.size
        clear hR2 hR3
        go_wp2_with fail
        refine (bytes_any _ _ r r h h _ HR.out.sees HQ.out.sees (by omega) (by omega)).mono ?_
        rw [eqRow_yes (fun _ _ => rfl)]
        rintro e w4 ⟨rfl, hb4⟩
        have HR4 := Lib.hid (HR.out.kept hb4)
        have HQ4 := Lib.hid (HQ.out.kept hb4)
        have HBD4 := Lib.hid (HBD.out.kept hb4)
        have HB4 := Lib.hid (belowStep HB.out hb4)
        clear hb4 HR HQ HBD HB
        go_wp2_with fail
        refine (spoilBytes_any gR r cR h _ HR4.out (by omega)).mono ?_
        rintro e w5 ⟨rfl, _, hu⟩
        have HQ5 := Lib.hid (hu.arr HQ4.out (show gq ≠ gR by omega))
        have HBD5 := Lib.hid (HBD4.out.other hu NR.out)
        have HB5 := Lib.hid (hu.out HB4.out (by omega))
        clear hu HR4 HQ4 HBD4 HB4
        go_wp2_with fail
        refine (ram_any lay W1.heap.size gb gr gm ga gc n cap r f h _ HBD5.out b6').mono ?_
        rintro e w6 ⟨gS, cS, rfl, hS1, hS2, hS3⟩
        have HS := Lib.hid hS2
        have HQ6 := Lib.hid (HQ5.out.kept hS3)
        have HB6 := Lib.hid (belowStep HB5.out hS3)
        clear hS2 hS3
        go_wp2_with fail
        refine (bytes_any _ _ r r h h _ HS.out.sees HQ6.out.sees (by omega) (by omega)).mono ?_
        rw [eqRow_yes (fun _ _ => rfl)]
        rintro e w7 ⟨rfl, hb7⟩
        go_wp2_with fail
        go_ret
        exact ⟨rfl, belowStep HB6.out hb7⟩
  · have HB := Lib.hid (belowStep cb hb)
    clear can hb c0 c2 cb hW hB
    go_wp2_with fail
    go_ret
    exact ⟨rfl, HB.out⟩

open Go.WideShapes Go.ChangeAt in
set_option maxRecDepth 100000 in
theorem walk (H : Type) (enc : TypeId × Value → H) (W : World) (base : Nat) (v0 v1 : Value) {d0 d1 : DataW H} {p0 p1 : List MemPlace} (k0 : Value.okWide Try.prog W .any base 23 v0) (h0 : DataW.Trod enc Try.prog W 0 (fun _ => true) true 23 v0 d0 p0)
    (k1 : Value.okWide Try.prog W .any base 56 v1) (h1 : DataW.Trod enc Try.prog W 0 (fun _ => true) true 56 v1 d1 p1) :
    Calls Try.prog 10 #[v0, v1] W fun e w' => e = .returned (.bool true) ∧ Below W.heap.size W w' := by
  obtain ⟨lay, rom, ram, by_, rfl, l0, l1, y0, y1, r0, r1, _, _⟩ := openPlan k0 h0
  obtain ⟨m, f0, f1, f2, S, hm, hw⟩ := openThree Try.underlying56 Try.underlying45 (by kernel_rfl) rfl rfl rfl (by kernel_rfl) (by kernel_rfl) (by kernel_rfl) Try.underlying3 Try.underlying35 Try.underlying5 k1 h1
  exact law lay rom ram by_ v1 m f0 f1 f2 W S hm (fun j hj => wf_u32 (hw j hj).2.1) l0 l1 y0 y1 r0 r1
end Go.Proofs.Ytbfpacngphjkcaa.boardRuns
