/- The walk of the law BoardKeeps. -/
import Derived.Test.YtbfpacngphjkcaaBoardP
import Derived.Test.YtbfpacngphjkcaaOpen
namespace Go.Proofs.Ytbfpacngphjkcaa.boardKeeps
open Go.RowKit Go.ChangeShapes
set_option linter.unusedVariables false
set_option linter.unusedSimpArgs false

theorem keepU {w w' : World} {g : Nat} {a : Addr} {v : Value} (hu : Upd w g w') (h : w.cell? a = some v) (hn : a.block ≠ g) : w'.cell? a = some v := by
  rw [← h]; exact hu.cell (World.block_lt_of_cell? _ _ h) hn

theorem ownsKept {w w' : World} {base : Nat} {E : TypeId} {size : Nat} {v : Value} {n : Nat} {xs : List Value} (h : w.ownsRow base E size v n xs) (b : Below w.heap.size w w') : w'.ownsRow base E size v n xs :=
  World.ownsRow.kept (row := none) h ⟨b.os, b.tape, b.output, b.size, fun k hk _ => b.block k hk⟩ (by cases v.ownBlock <;> simp)
/-- The bytes that were read first. -/
def first (f : Nat → Int) (lay : Int) (n r : Nat) (u : Nat → Int) (k : Nat) : List Value := (List.range k).map fun j => Value.int .u8 (byteOf f (fun _ => 0) (spotAt lay n r (u j)))
theorem first_succ (f : Nat → Int) (lay : Int) (n r : Nat) (u : Nat → Int) (k : Nat) : first f lay n r u (k + 1) = first f lay n r u k ++ [Value.int .u8 (byteOf f (fun _ => 0) (spotAt lay n r (u k)))] := by
  simp [first, List.range_succ]

set_option maxRecDepth 100000 in
set_option maxHeartbeats 4000000 in
theorem law (lay rom ram by_ what x vv : Int) (v : Value) (m : Nat) (u : Nat → Int) (w : World) (S : Sees w .u32 v m u) (hm : m ≤ 35184372087808) (hu : ∀ j, j < m → 0 ≤ u j ∧ u j ≤ 4294967295) (x0 : 0 ≤ x) (x1 : x ≤ 4294967295) (l0 : 0 ≤ lay) (l1 : lay ≤ 255) (y0 : 0 ≤ by_) (y1 : by_ ≤ 255) (r0 : -9223372036854775808 ≤ rom) (r1 : rom ≤ 9223372036854775807) :
    Calls Try.prog 6 #[planV lay rom ram by_, .agg #[.int .i64 what, .int .u32 x, .int .u8 vv], v] w fun e w' => e = .returned (.bool true) ∧ Below w.heap.size w w' := by
  obtain ⟨ao, cc, rfl, hsee⟩ := S
  have Z := Lib.hid hsee
  have HU := Lib.hid hu
  clear hsee hu
  go_enter Try.func6, Try.ntmps6
  try simp only [List.append_eq, List.cons_append, List.nil_append]
  go_wp2_with fail
  refine (plain_true _).mono ?_
  obtain ⟨W1, hW⟩ : ∃ W1, W1 = (w.alloc (.cells #[.int .u8 lay, .int .i64 rom, .int .i64 ram, .int .u8 by_] 23)).alloc (.cells #[.int .i64 what, .int .u32 x, .int .u8 vv] 45) := ⟨_, rfl⟩
  obtain ⟨B, hB⟩ : ∃ B, B = w.heap.size := ⟨_, rfl⟩
  have c0 : W1.cell? ⟨B, 0, none⟩ = some (.int .u8 lay) := by rw [hW, hB]; simp [go_sem]
  have c1 : W1.cell? ⟨B, 1, none⟩ = some (.int .i64 rom) := by rw [hW, hB]; simp [go_sem]
  have c2 : W1.cell? ⟨B, 2, none⟩ = some (.int .i64 ram) := by rw [hW, hB]; simp [go_sem]
  have c3 : W1.cell? ⟨B, 3, none⟩ = some (.int .u8 by_) := by rw [hW, hB]; simp [go_sem]
  have c4 : W1.cell? ⟨B + 1, 1, none⟩ = some (.int .u32 x) := by rw [hW, hB]; simp [go_sem]
  have c5 : W1.cell? ⟨B + 1, 2, none⟩ = some (.int .u8 vv) := by rw [hW, hB]; simp [go_sem]
  have cb : Below w.heap.size w W1 := by rw [hW]; exact belowA (belowA (Below.refl _ _) _) _
  rw [← hW, ← hB]
  rintro e wp ⟨rfl, hp⟩
  have d0 := keepC hp c0
  have d1 := keepC hp c1
  have d2 := keepC hp c2
  have d3 := keepC hp c3
  have D4 := Lib.hid (keepC hp c4)
  have D5 := Lib.hid (keepC hp c5)
  have HP := Lib.hid (belowStep cb hp)
  have hwsz := (belowStep cb hp).size
  have HE := Lib.hid hB
  clear hB c0 c1 c2 c3 c4 c5 cb hW hp
  go_wp2_with fail
  refine (made_any lay rom ram by_ _ l0 l1 y0 y1 r0 r1).mono ?_
  have hle := romN_le rom
  obtain ⟨n, hn⟩ : ∃ n, romN rom = n := ⟨_, rfl⟩
  rw [hn] at hle ⊢
  have HN := Lib.hid hn
  clear hn d0 d1 d2 d3
  rintro e w2 (⟨can, gb, gr, gm, ga, gc, cap, g0, f, rfl, bd, a0, hg0, hne, hb⟩ | ⟨can, g0, rfl, hb⟩)
  · unfold canB at can
    obtain ⟨b1, b2, b3, b4, b5, b6⟩ := of_decide_eq_true can
    obtain ⟨r, rfl⟩ := Int.eq_ofNat_of_zero_le b5
    rw [Int.toNat_natCast] at bd
    have b6' : r ≤ 524288 := by omega
    have E4 := Lib.hid (keepC hb D4.out)
    have E5 := Lib.hid (keepC hb D5.out)
    have HB := Lib.hid (belowStep HP.out hb)
    have BD := Lib.hid bd
    have hla := bd.la
    have hga := bd.ram.lt
    have hB1 : B + 1 < wp.heap.size := World.block_lt_of_cell? _ _ D4.out
    clear can bd a0 hb HP b5 D4 D5
    obtain ⟨i0, hi, hz0, hz1, hz2⟩ := info_parts infoU8
    go_wp2_with fail
    -- the first loop: what is read is kept
    go_loopw [10, 11] (fun s i wr => ∃ (k : Nat), i = .int .i64 k ∧ k ≤ m ∧ wr.ownsRow w2.heap.size 5 1 s k (first f lay n r u k) ∧ Below w2.heap.size w2 wr) (fun _ i _ => m - (intOf i).toNat)
    case atStart => exact ⟨0, rfl, Nat.zero_le _, ⟨by simp [first], Or.inl ⟨rfl, rfl⟩⟩, Below.refl _ _⟩
    case round =>
      obtain ⟨k, rfl, hk, hown, hbw⟩ := hrel
      have HBW := Lib.hid hbw
      have HO := Lib.hid hown
      have hsz := hbw.size
      clear hbw hown
      by_cases hlt : k < m
      · obtain ⟨bb, off, rfl, hcl⟩ := Z.out.resolve_left (by omega)
        have hbb : bb < w.heap.size := World.block_lt_of_cell? _ _ (hcl k hlt)
        have x1c := keepC HBW.out (keepC HB.out (hcl k hlt))
        have hy := HU.out k hlt
        obtain ⟨y, hyy⟩ : ∃ y, u k = y := ⟨_, rfl⟩
        rw [hyy] at x1c hy
        have HY := Lib.hid hyy
        obtain ⟨yl, yh⟩ := hy
        clear hcl hyy
        obtain ⟨z, hz⟩ : ∃ z, byteOf f (fun _ => 0) (spotAt lay n r y) = z := ⟨_, rfl⟩
        have RD : Hid (Calls Try.prog 17 #[.pointer (some ⟨gb, 0, none⟩), .int .u32 y] wr fun e w' => e = .returned (.tuple #[.int .u8 z, .bool (decide ((spotAt lay n r y).1 ≠ 0))]) ∧ Below wr.heap.size wr w') := by
          have := read_any y lay _ gb gr gm ga gc n cap r f _ wr (BD.out.kept HBW.out) yl yh b6' b3 b4
          rw [hz] at this
          exact this
        have HZ := Lib.hid hz
        clear hz
        obtain ⟨tb, htb⟩ : ∃ tb : Bool, tb = decide ((spotAt lay n r y).1 ≠ 0) := ⟨_, rfl⟩
        rw [← htb] at RD
        clear htb
        go_wp2_with fail
        refine RD.out.mono ?_
        rintro e w3 ⟨rfl, hb3⟩
        have HO3 : Hid (w3.ownsRow w2.heap.size 5 1 u10 k (first f lay n r u k)) := ownsKept HO.out hb3
        have hsz3 := hb3.size
        have HB3 := Lib.hid (belowStep HBW.out hb3)
        clear hb3 RD HO HBW
        have hbase : w2.heap.size ≤ w3.heap.size := by omega
        go_wp2_with (refine wpList_append_own _ rfl (.tmp 50) (.tmp 52) 24 rfl w2.heap.size 5 i0 (.int .u8 0) 1 1 Try.underlying24 hi hz0 hz1 hz2 rfl (by decide) u10 k (first f lay n r u k) rfl (ownsKept HO3.out (belowA (Below.refl _ _) _)) ⟨w3.heap.size, 0, none⟩ 1 1 [.int .u8 z] rfl rfl ?c1 ?c2 ?c3 ?c4 ?c5 ?_)
        case c1 =>
          intro j x hx
          have hj : j = 0 := by
            rcases Nat.eq_zero_or_pos j with h | h
            · exact h
            · rw [List.getElem?_eq_none (by simp; omega)] at hx; cases hx
          subst hj
          simp at hx
          subst hx
          simp [Addr.add, go_sem]
        case c2 => intro x hx; simp at hx; subst hx; rfl
        case c3 => unfold maxLen; omega
        case c4 => omega
        case c5 => simp; omega
        intro v' w4 hown4 hgrow4 _
        have HO4 : Hid (w4.ownsRow w2.heap.size 5 1 v' (k + 1) (first f lay n r u (k + 1))) := by
          rw [first_succ, HY.out, HZ.out]; exact hown4
        have HB4 : Hid (Below w2.heap.size w2 w4) := by
          refine Below.grown (belowA HB3.out _) hgrow4 (by simp; omega) ?_
          intro q hq
          rcases HO3.out.2 with ⟨hv, _⟩ | ⟨g, cap', cur, hv, hg, _⟩
          · rw [hv] at hq; cases hq
          · rw [hv] at hq; simp [Value.ownBlock] at hq; omega
        clear hown4 hgrow4 HO3 HB3
        go_wp2_with fail
        go_roundw
        case rel => exact ⟨k + 1, by go_num, by omega, HO4.out, HB4.out⟩
        case measure => simp [intOf]; omega
      · have hkm : k = m := by omega
        have HO := Lib.hid (show wr.ownsRow w2.heap.size 5 1 u10 m (first f lay n r u m) by rw [← hkm]; exact HO.out)
        clear hkm
        have e4 := keepC HBW.out E4.out
        have e5 := keepC HBW.out E5.out
        have BDR := Lib.hid (BD.out.kept HBW.out)
        have hBr : B + 1 < wr.heap.size := World.block_lt_of_cell? _ _ e4
        have hgaw : ga < wr.heap.size := BDR.out.ram.lt
        have WAS : Hid (m = 0 ∨ ∃ gw cw, u10 = .slice (some ⟨gw, 0, none⟩) m cw ∧ w2.heap.size ≤ gw ∧ Arr wr .u8 5 gw m (fun j => byteOf f (fun _ => 0) (spotAt lay n r (u j)))) := by
          rcases HO.out.2 with ⟨_, h⟩ | h
          · exact Or.inl h
          · have hv : u10 ≠ .slice none 0 0 := by
              obtain ⟨g, cap', cur, hv, _⟩ := h
              rw [hv]; intro hh; cases hh
            obtain ⟨gw, cw, h1, h2, h3⟩ := Arr.owned (f := fun j => byteOf f (fun _ => 0) (spotAt lay n r (u j))) hv HO.out
            exact Or.inr ⟨gw, cw, h1, h2, h3⟩
        have hEq := HE.out
        have hwga : w.heap.size ≤ ga := by omega
        clear hEq
        have hs := spotAt_is lay n r x b3 b4
        obtain ⟨⟨sk, sa⟩, hsp⟩ : ∃ s, spotAt lay n r x = s := ⟨_, rfl⟩
        rw [hsp] at hs
        rcases hs with e | ⟨kk, hkk, e⟩ | ⟨kk, hkk, e⟩
        · cases e
          have DX : Hid (Calls Try.prog 19 #[.pointer (some ⟨gb, 0, none⟩), .int .u32 x] wr fun e w' => e = .returned (.agg #[.int .u8 0, .int .i64 0]) ∧ Below wr.heap.size wr w') := by
            have := dec_any x lay gb gr gm ga gc n cap r wr BDR.out.cells x0 x1 b6' b3 b4
            rw [show spot lay n r (x / 65536 % 256) (x % 65536) = (0, 0) from hsp] at this
            exact this
          have HSP := Lib.hid hsp
          clear hsp
          go_wp2_with fail
          refine DX.out.mono ?_
          rintro e w3 ⟨rfl, hb3⟩
          have e4 := keepC hb3 e4
          have e5 := keepC hb3 e5
          have hsz3 := hb3.size
          obtain ⟨G3, hG3⟩ : ∃ G3, G3 = w3.heap.size := ⟨_, rfl⟩
          have KB4 : Hid (Below wr.heap.size wr (w3.alloc (.cells #[.int .u8 0, .int .i64 0] 40))) := belowA hb3 _
          have S4 : Hid (Blk (w3.alloc (.cells #[.int .u8 0, .int .i64 0] 40)) G3 40 #[.int .u8 0, .int .i64 0]) := by rw [hG3]; exact Blk.new _ _ _
          have hG3' : wr.heap.size ≤ G3 := by omega
          have HG3 := Lib.hid hG3
          clear hb3 DX hG3
          go_wp2_with fail
          refine (write_any x vv lay wp.heap.size gb gr gm ga gc n cap r f _ _ (BDR.out.kept KB4.out) x0 x1 b6' b3 b4).mono ?_
          unfold Wrote
          rw [HSP.out]
          rintro e w5 ⟨rfl, ha5, hu5⟩
          have k5 := hu5.blk S4.out (show G3 ≠ ga by omega)
          have p0 : w5.cell? ⟨G3, 0, none⟩ = some (.int .u8 0) := k5.cell 0
          have p1 : w5.cell? ⟨G3, 1, none⟩ = some (.int .i64 0) := k5.cell 1
          have q5 : w5.cell? ⟨B + 1, 2, none⟩ = some (.int .u8 vv) := keepU hu5 (keepAlloc e5 _) (show B + 1 ≠ ga by omega)
          have BD5 := Lib.hid ((BDR.out.kept KB4.out).upd hu5 ha5)
          have HB5 := Lib.hid (hu5.out (belowStep (belowStep HB.out HBW.out) KB4.out) (show w.heap.size ≤ ga by omega))
          have WAS5 : Hid (m = 0 ∨ ∃ gw cw, u10 = .slice (some ⟨gw, 0, none⟩) m cw ∧ Arr w5 .u8 5 gw m (fun j => byteOf f (fun _ => 0) (spotAt lay n r (u j)))) := by
            rcases WAS.out with h | ⟨gw, cw, h1, h2, h3⟩
            · exact Or.inl h
            · exact Or.inr ⟨gw, cw, h1, hu5.arr (h3.kept KB4.out) (show gw ≠ ga by omega)⟩
          have PG := Lib.hid p1
          clear ha5 hu5 k5 e4 e5 p1
          rw [← HG3.out]
          clear HG3
          have hdec : decide ((0 : Int) ≠ 0) = false := by decide
          rw [hdec]
          clear hdec
          go_wp2_with fail
          go_loopw [16] (fun i wx => ∃ (k : Nat), i = .int .i64 k ∧ k ≤ m ∧ Below w5.heap.size w5 wx) (fun i _ => m - (intOf i).toNat)
          case atStart => exact ⟨0, rfl, Nat.zero_le _, Below.refl _ _⟩
          case round =>
            obtain ⟨k, rfl, hk, hbx⟩ := hrel
            have HBX := Lib.hid hbx
            clear hbx
            by_cases hlt : k < m
            · obtain ⟨gw, cw, rfl, hWas⟩ := WAS5.out.resolve_left (by omega)
              obtain ⟨bb, off, rfl, hcl⟩ := Z.out.resolve_left (by omega)
              have x1c := keepC HBX.out (keepC (show Below w.heap.size w w5 from HB5.out) (hcl k hlt))
              have hy := HU.out k hlt
              have hzc := keepC HBX.out (hWas.cell hlt)
              have p0 := keepC HBX.out p0
              have p1 := keepC HBX.out PG.out
              have q5 := keepC HBX.out q5
              obtain ⟨y, hyy⟩ : ∃ y, u k = y := ⟨_, rfl⟩
              rw [hyy] at x1c hy hzc
              obtain ⟨yl, yh⟩ := hy
              clear hcl hyy hWas
              have ht := spotAt_is lay n r y b3 b4
              obtain ⟨⟨tk, ta⟩, htp⟩ : ∃ s, spotAt lay n r y = s := ⟨_, rfl⟩
              rw [htp] at ht
              have HT := Lib.hid htp
              clear htp
              rcases ht with e | ⟨jj, hjj, e⟩ | ⟨jj, hjj, e⟩
              · cases e
                have ev : byteOf f (putOf (fun _ => 0) (0, 0) vv) (0, 0) = 0 := by simp [byteOf, putOf]
                have ew : byteOf f (fun _ => 0) (0, 0) = 0 := by simp [byteOf]
                rw [HT.out, ew] at hzc
                have RD : Hid (Calls Try.prog 17 #[.pointer (some ⟨gb, 0, none⟩), .int .u32 y] wr fun e w' => e = .returned (.tuple #[.int .u8 0, .bool false]) ∧ Below wr.heap.size wr w') := by
                  have := read_any y lay _ gb gr gm ga gc n cap r f _ wr (BD5.out.kept HBX.out) yl yh b6' b3 b4
                  rw [HT.out, ev, show decide (((0 : Int), (0 : Int)).1 ≠ 0) = false by simp] at this
                  exact this
                clear ev ew
                go_wp2_with fail
                refine RD.out.mono ?_
                rintro e w6 ⟨rfl, hb6⟩
                have p0 := keepC hb6 p0
                have p1 := keepC hb6 p1
                have q5 := keepC hb6 q5
                have x1c := keepC hb6 x1c
                have hzc := keepC hb6 hzc
                have DD : Hid (Calls Try.prog 19 #[.pointer (some ⟨gb, 0, none⟩), .int .u32 y] w6 fun e w' => e = .returned (.agg #[.int .u8 0, .int .i64 0]) ∧ Below w6.heap.size w6 w') := by
                  have := dec_any y lay gb gr gm ga gc n cap r w6 ((BD5.out.kept HBX.out).kept hb6).cells yl yh b6' b3 b4
                  rw [show spot lay n r (y / 65536 % 256) (y % 65536) = (0, 0) from HT.out] at this
                  exact this
                have HB6 := Lib.hid (belowStep HBX.out hb6)
                clear hb6 RD
                go_wp2_with fail
                refine DD.out.mono ?_
                rintro e w7 ⟨rfl, hb7⟩
                have p0 := keepC hb7 p0
                have p1 := keepC hb7 p1
                have q5 := keepC hb7 q5
                have hzc := keepC hb7 hzc
                have l0' : G3 < w7.heap.size := World.block_lt_of_cell? _ _ p0
                have l1' : B + 1 < w7.heap.size := World.block_lt_of_cell? _ _ q5
                have l2' : gw < w7.heap.size := World.block_lt_of_cell? _ _ hzc
                have HB7 := Lib.hid (belowStep HB6.out hb7)
                clear hb7 DD
                go_wp2_with fail
                go_roundw
                case rel => exact ⟨k + 1, by go_num, by omega, belowA HB7.out _⟩
                case measure => simp [intOf]; omega
              · cases e
                obtain ⟨z, hz⟩ : ∃ z, f jj = z := ⟨_, rfl⟩
                have ev : byteOf f (putOf (fun _ => 0) (0, 0) vv) (1, (jj : Int)) = z := by simp [byteOf, hz]
                have ew : byteOf f (fun _ => 0) (1, (jj : Int)) = z := by simp [byteOf, hz]
                clear hz
                rw [HT.out, ew] at hzc
                have RD : Hid (Calls Try.prog 17 #[.pointer (some ⟨gb, 0, none⟩), .int .u32 y] wr fun e w' => e = .returned (.tuple #[.int .u8 z, .bool true]) ∧ Below wr.heap.size wr w') := by
                  have := read_any y lay _ gb gr gm ga gc n cap r f _ wr (BD5.out.kept HBX.out) yl yh b6' b3 b4
                  rw [HT.out, ev, show decide (((1 : Int), ((jj : Int) : Int)).1 ≠ 0) = true by simp] at this
                  exact this
                clear ev ew
                go_wp2_with fail
                refine RD.out.mono ?_
                rintro e w6 ⟨rfl, hb6⟩
                have p0 := keepC hb6 p0
                have p1 := keepC hb6 p1
                have q5 := keepC hb6 q5
                have x1c := keepC hb6 x1c
                have hzc := keepC hb6 hzc
                have DD : Hid (Calls Try.prog 19 #[.pointer (some ⟨gb, 0, none⟩), .int .u32 y] w6 fun e w' => e = .returned (.agg #[.int .u8 1, .int .i64 (jj : Int)]) ∧ Below w6.heap.size w6 w') := by
                  have := dec_any y lay gb gr gm ga gc n cap r w6 ((BD5.out.kept HBX.out).kept hb6).cells yl yh b6' b3 b4
                  rw [show spot lay n r (y / 65536 % 256) (y % 65536) = (1, (jj : Int)) from HT.out] at this
                  exact this
                have HB6 := Lib.hid (belowStep HBX.out hb6)
                clear hb6 RD
                go_wp2_with fail
                refine DD.out.mono ?_
                rintro e w7 ⟨rfl, hb7⟩
                have p0 := keepC hb7 p0
                have p1 := keepC hb7 p1
                have q5 := keepC hb7 q5
                have hzc := keepC hb7 hzc
                have l0' : G3 < w7.heap.size := World.block_lt_of_cell? _ _ p0
                have l1' : B + 1 < w7.heap.size := World.block_lt_of_cell? _ _ q5
                have l2' : gw < w7.heap.size := World.block_lt_of_cell? _ _ hzc
                have HB7 := Lib.hid (belowStep HB6.out hb7)
                clear hb7 DD
                go_wp2_with fail
                go_roundw
                case rel => exact ⟨k + 1, by go_num, by omega, belowA HB7.out _⟩
                case measure => simp [intOf]; omega
              · cases e
                have ev : byteOf f (putOf (fun _ => 0) (0, 0) vv) (2, (jj : Int)) = 0 := by simp [byteOf, putOf]
                have ew : byteOf f (fun _ => 0) (2, (jj : Int)) = 0 := by simp [byteOf]
                rw [HT.out, ew] at hzc
                have RD : Hid (Calls Try.prog 17 #[.pointer (some ⟨gb, 0, none⟩), .int .u32 y] wr fun e w' => e = .returned (.tuple #[.int .u8 0, .bool true]) ∧ Below wr.heap.size wr w') := by
                  have := read_any y lay _ gb gr gm ga gc n cap r f _ wr (BD5.out.kept HBX.out) yl yh b6' b3 b4
                  rw [HT.out, ev, show decide (((2 : Int), ((jj : Int) : Int)).1 ≠ 0) = true by simp] at this
                  exact this
                clear ev ew
                go_wp2_with fail
                refine RD.out.mono ?_
                rintro e w6 ⟨rfl, hb6⟩
                have p0 := keepC hb6 p0
                have p1 := keepC hb6 p1
                have q5 := keepC hb6 q5
                have x1c := keepC hb6 x1c
                have hzc := keepC hb6 hzc
                have DD : Hid (Calls Try.prog 19 #[.pointer (some ⟨gb, 0, none⟩), .int .u32 y] w6 fun e w' => e = .returned (.agg #[.int .u8 2, .int .i64 (jj : Int)]) ∧ Below w6.heap.size w6 w') := by
                  have := dec_any y lay gb gr gm ga gc n cap r w6 ((BD5.out.kept HBX.out).kept hb6).cells yl yh b6' b3 b4
                  rw [show spot lay n r (y / 65536 % 256) (y % 65536) = (2, (jj : Int)) from HT.out] at this
                  exact this
                have HB6 := Lib.hid (belowStep HBX.out hb6)
                clear hb6 RD
                go_wp2_with fail
                refine DD.out.mono ?_
                rintro e w7 ⟨rfl, hb7⟩
                have p0 := keepC hb7 p0
                have p1 := keepC hb7 p1
                have q5 := keepC hb7 q5
                have hzc := keepC hb7 hzc
                have l0' : G3 < w7.heap.size := World.block_lt_of_cell? _ _ p0
                have l1' : B + 1 < w7.heap.size := World.block_lt_of_cell? _ _ q5
                have l2' : gw < w7.heap.size := World.block_lt_of_cell? _ _ hzc
                have HB7 := Lib.hid (belowStep HB6.out hb7)
                clear hb7 DD
                go_wp2_with fail
                go_roundw
                case rel => exact ⟨k + 1, by go_num, by omega, belowA HB7.out _⟩
                case measure => simp [intOf]; omega
            · clear p0 q5
              go_wp2_with fail
              go_ret
              exact ⟨rfl, belowStep HB5.out HBX.out⟩
        · cases e
          have DX : Hid (Calls Try.prog 19 #[.pointer (some ⟨gb, 0, none⟩), .int .u32 x] wr fun e w' => e = .returned (.agg #[.int .u8 1, .int .i64 (kk : Int)]) ∧ Below wr.heap.size wr w') := by
            have := dec_any x lay gb gr gm ga gc n cap r wr BDR.out.cells x0 x1 b6' b3 b4
            rw [show spot lay n r (x / 65536 % 256) (x % 65536) = (1, (kk : Int)) from hsp] at this
            exact this
          have HSP := Lib.hid hsp
          clear hsp
          go_wp2_with fail
          refine DX.out.mono ?_
          rintro e w3 ⟨rfl, hb3⟩
          have e4 := keepC hb3 e4
          have e5 := keepC hb3 e5
          have hsz3 := hb3.size
          obtain ⟨G3, hG3⟩ : ∃ G3, G3 = w3.heap.size := ⟨_, rfl⟩
          have KB4 : Hid (Below wr.heap.size wr (w3.alloc (.cells #[.int .u8 1, .int .i64 (kk : Int)] 40))) := belowA hb3 _
          have S4 : Hid (Blk (w3.alloc (.cells #[.int .u8 1, .int .i64 (kk : Int)] 40)) G3 40 #[.int .u8 1, .int .i64 (kk : Int)]) := by rw [hG3]; exact Blk.new _ _ _
          have hG3' : wr.heap.size ≤ G3 := by omega
          have HG3 := Lib.hid hG3
          clear hb3 DX hG3
          go_wp2_with fail
          refine (write_any x vv lay wp.heap.size gb gr gm ga gc n cap r f _ _ (BDR.out.kept KB4.out) x0 x1 b6' b3 b4).mono ?_
          unfold Wrote
          rw [HSP.out]
          rintro e w5 ⟨rfl, ha5, hu5⟩
          have k5 := hu5.blk S4.out (show G3 ≠ ga by omega)
          have p0 : w5.cell? ⟨G3, 0, none⟩ = some (.int .u8 1) := k5.cell 0
          have p1 : w5.cell? ⟨G3, 1, none⟩ = some (.int .i64 (kk : Int)) := k5.cell 1
          have q5 : w5.cell? ⟨B + 1, 2, none⟩ = some (.int .u8 vv) := keepU hu5 (keepAlloc e5 _) (show B + 1 ≠ ga by omega)
          have BD5 := Lib.hid ((BDR.out.kept KB4.out).upd hu5 ha5)
          have HB5 := Lib.hid (hu5.out (belowStep (belowStep HB.out HBW.out) KB4.out) (show w.heap.size ≤ ga by omega))
          have WAS5 : Hid (m = 0 ∨ ∃ gw cw, u10 = .slice (some ⟨gw, 0, none⟩) m cw ∧ Arr w5 .u8 5 gw m (fun j => byteOf f (fun _ => 0) (spotAt lay n r (u j)))) := by
            rcases WAS.out with h | ⟨gw, cw, h1, h2, h3⟩
            · exact Or.inl h
            · exact Or.inr ⟨gw, cw, h1, hu5.arr (h3.kept KB4.out) (show gw ≠ ga by omega)⟩
          have PG := Lib.hid p1
          clear ha5 hu5 k5 e4 e5 p1
          rw [← HG3.out]
          clear HG3
          have hdec : decide ((1 : Int) ≠ 0) = true := by decide
          rw [hdec]
          clear hdec
          go_wp2_with fail
          go_loopw [16] (fun i wx => ∃ (k : Nat), i = .int .i64 k ∧ k ≤ m ∧ Below w5.heap.size w5 wx) (fun i _ => m - (intOf i).toNat)
          case atStart => exact ⟨0, rfl, Nat.zero_le _, Below.refl _ _⟩
          case round =>
            obtain ⟨k, rfl, hk, hbx⟩ := hrel
            have HBX := Lib.hid hbx
            clear hbx
            by_cases hlt : k < m
            · obtain ⟨gw, cw, rfl, hWas⟩ := WAS5.out.resolve_left (by omega)
              obtain ⟨bb, off, rfl, hcl⟩ := Z.out.resolve_left (by omega)
              have x1c := keepC HBX.out (keepC (show Below w.heap.size w w5 from HB5.out) (hcl k hlt))
              have hy := HU.out k hlt
              have hzc := keepC HBX.out (hWas.cell hlt)
              have p0 := keepC HBX.out p0
              have p1 := keepC HBX.out PG.out
              have q5 := keepC HBX.out q5
              obtain ⟨y, hyy⟩ : ∃ y, u k = y := ⟨_, rfl⟩
              rw [hyy] at x1c hy hzc
              obtain ⟨yl, yh⟩ := hy
              clear hcl hyy hWas
              have ht := spotAt_is lay n r y b3 b4
              obtain ⟨⟨tk, ta⟩, htp⟩ : ∃ s, spotAt lay n r y = s := ⟨_, rfl⟩
              rw [htp] at ht
              have HT := Lib.hid htp
              clear htp
              rcases ht with e | ⟨jj, hjj, e⟩ | ⟨jj, hjj, e⟩
              · cases e
                have ev : byteOf f (putOf (fun _ => 0) (1, (kk : Int)) vv) (0, 0) = 0 := by simp [byteOf, putOf]
                have ew : byteOf f (fun _ => 0) (0, 0) = 0 := by simp [byteOf]
                rw [HT.out, ew] at hzc
                have RD : Hid (Calls Try.prog 17 #[.pointer (some ⟨gb, 0, none⟩), .int .u32 y] wr fun e w' => e = .returned (.tuple #[.int .u8 0, .bool false]) ∧ Below wr.heap.size wr w') := by
                  have := read_any y lay _ gb gr gm ga gc n cap r f _ wr (BD5.out.kept HBX.out) yl yh b6' b3 b4
                  rw [HT.out, ev, show decide (((0 : Int), (0 : Int)).1 ≠ 0) = false by simp] at this
                  exact this
                clear ev ew
                go_wp2_with fail
                refine RD.out.mono ?_
                rintro e w6 ⟨rfl, hb6⟩
                have p0 := keepC hb6 p0
                have p1 := keepC hb6 p1
                have q5 := keepC hb6 q5
                have x1c := keepC hb6 x1c
                have hzc := keepC hb6 hzc
                have DD : Hid (Calls Try.prog 19 #[.pointer (some ⟨gb, 0, none⟩), .int .u32 y] w6 fun e w' => e = .returned (.agg #[.int .u8 0, .int .i64 0]) ∧ Below w6.heap.size w6 w') := by
                  have := dec_any y lay gb gr gm ga gc n cap r w6 ((BD5.out.kept HBX.out).kept hb6).cells yl yh b6' b3 b4
                  rw [show spot lay n r (y / 65536 % 256) (y % 65536) = (0, 0) from HT.out] at this
                  exact this
                have HB6 := Lib.hid (belowStep HBX.out hb6)
                clear hb6 RD
                go_wp2_with fail
                refine DD.out.mono ?_
                rintro e w7 ⟨rfl, hb7⟩
                have p0 := keepC hb7 p0
                have p1 := keepC hb7 p1
                have q5 := keepC hb7 q5
                have hzc := keepC hb7 hzc
                have l0' : G3 < w7.heap.size := World.block_lt_of_cell? _ _ p0
                have l1' : B + 1 < w7.heap.size := World.block_lt_of_cell? _ _ q5
                have l2' : gw < w7.heap.size := World.block_lt_of_cell? _ _ hzc
                have HB7 := Lib.hid (belowStep HB6.out hb7)
                clear hb7 DD
                go_wp2_with fail
                go_roundw
                case rel => exact ⟨k + 1, by go_num, by omega, belowA HB7.out _⟩
                case measure => simp [intOf]; omega
              · cases e
                obtain ⟨z, hz⟩ : ∃ z, f jj = z := ⟨_, rfl⟩
                have ev : byteOf f (putOf (fun _ => 0) (1, (kk : Int)) vv) (1, (jj : Int)) = z := by simp [byteOf, hz]
                have ew : byteOf f (fun _ => 0) (1, (jj : Int)) = z := by simp [byteOf, hz]
                clear hz
                rw [HT.out, ew] at hzc
                have RD : Hid (Calls Try.prog 17 #[.pointer (some ⟨gb, 0, none⟩), .int .u32 y] wr fun e w' => e = .returned (.tuple #[.int .u8 z, .bool true]) ∧ Below wr.heap.size wr w') := by
                  have := read_any y lay _ gb gr gm ga gc n cap r f _ wr (BD5.out.kept HBX.out) yl yh b6' b3 b4
                  rw [HT.out, ev, show decide (((1 : Int), ((jj : Int) : Int)).1 ≠ 0) = true by simp] at this
                  exact this
                clear ev ew
                go_wp2_with fail
                refine RD.out.mono ?_
                rintro e w6 ⟨rfl, hb6⟩
                have p0 := keepC hb6 p0
                have p1 := keepC hb6 p1
                have q5 := keepC hb6 q5
                have x1c := keepC hb6 x1c
                have hzc := keepC hb6 hzc
                have DD : Hid (Calls Try.prog 19 #[.pointer (some ⟨gb, 0, none⟩), .int .u32 y] w6 fun e w' => e = .returned (.agg #[.int .u8 1, .int .i64 (jj : Int)]) ∧ Below w6.heap.size w6 w') := by
                  have := dec_any y lay gb gr gm ga gc n cap r w6 ((BD5.out.kept HBX.out).kept hb6).cells yl yh b6' b3 b4
                  rw [show spot lay n r (y / 65536 % 256) (y % 65536) = (1, (jj : Int)) from HT.out] at this
                  exact this
                have HB6 := Lib.hid (belowStep HBX.out hb6)
                clear hb6 RD
                go_wp2_with fail
                refine DD.out.mono ?_
                rintro e w7 ⟨rfl, hb7⟩
                have p0 := keepC hb7 p0
                have p1 := keepC hb7 p1
                have q5 := keepC hb7 q5
                have hzc := keepC hb7 hzc
                have l0' : G3 < w7.heap.size := World.block_lt_of_cell? _ _ p0
                have l1' : B + 1 < w7.heap.size := World.block_lt_of_cell? _ _ q5
                have l2' : gw < w7.heap.size := World.block_lt_of_cell? _ _ hzc
                have HB7 := Lib.hid (belowStep HB6.out hb7)
                clear hb7 DD
                go_wp2_with fail
                go_roundw
                case rel => exact ⟨k + 1, by go_num, by omega, belowA HB7.out _⟩
                case measure => simp [intOf]; omega
              · cases e
                have ev : byteOf f (putOf (fun _ => 0) (1, (kk : Int)) vv) (2, (jj : Int)) = 0 := by simp [byteOf, putOf]
                have ew : byteOf f (fun _ => 0) (2, (jj : Int)) = 0 := by simp [byteOf]
                rw [HT.out, ew] at hzc
                have RD : Hid (Calls Try.prog 17 #[.pointer (some ⟨gb, 0, none⟩), .int .u32 y] wr fun e w' => e = .returned (.tuple #[.int .u8 0, .bool true]) ∧ Below wr.heap.size wr w') := by
                  have := read_any y lay _ gb gr gm ga gc n cap r f _ wr (BD5.out.kept HBX.out) yl yh b6' b3 b4
                  rw [HT.out, ev, show decide (((2 : Int), ((jj : Int) : Int)).1 ≠ 0) = true by simp] at this
                  exact this
                clear ev ew
                go_wp2_with fail
                refine RD.out.mono ?_
                rintro e w6 ⟨rfl, hb6⟩
                have p0 := keepC hb6 p0
                have p1 := keepC hb6 p1
                have q5 := keepC hb6 q5
                have x1c := keepC hb6 x1c
                have hzc := keepC hb6 hzc
                have DD : Hid (Calls Try.prog 19 #[.pointer (some ⟨gb, 0, none⟩), .int .u32 y] w6 fun e w' => e = .returned (.agg #[.int .u8 2, .int .i64 (jj : Int)]) ∧ Below w6.heap.size w6 w') := by
                  have := dec_any y lay gb gr gm ga gc n cap r w6 ((BD5.out.kept HBX.out).kept hb6).cells yl yh b6' b3 b4
                  rw [show spot lay n r (y / 65536 % 256) (y % 65536) = (2, (jj : Int)) from HT.out] at this
                  exact this
                have HB6 := Lib.hid (belowStep HBX.out hb6)
                clear hb6 RD
                go_wp2_with fail
                refine DD.out.mono ?_
                rintro e w7 ⟨rfl, hb7⟩
                have p0 := keepC hb7 p0
                have p1 := keepC hb7 p1
                have q5 := keepC hb7 q5
                have hzc := keepC hb7 hzc
                have l0' : G3 < w7.heap.size := World.block_lt_of_cell? _ _ p0
                have l1' : B + 1 < w7.heap.size := World.block_lt_of_cell? _ _ q5
                have l2' : gw < w7.heap.size := World.block_lt_of_cell? _ _ hzc
                have HB7 := Lib.hid (belowStep HB6.out hb7)
                clear hb7 DD
                go_wp2_with fail
                go_roundw
                case rel => exact ⟨k + 1, by go_num, by omega, belowA HB7.out _⟩
                case measure => simp [intOf]; omega
            · clear p0 q5
              go_wp2_with fail
              go_ret
              exact ⟨rfl, belowStep HB5.out HBX.out⟩
        · cases e
          have DX : Hid (Calls Try.prog 19 #[.pointer (some ⟨gb, 0, none⟩), .int .u32 x] wr fun e w' => e = .returned (.agg #[.int .u8 2, .int .i64 (kk : Int)]) ∧ Below wr.heap.size wr w') := by
            have := dec_any x lay gb gr gm ga gc n cap r wr BDR.out.cells x0 x1 b6' b3 b4
            rw [show spot lay n r (x / 65536 % 256) (x % 65536) = (2, (kk : Int)) from hsp] at this
            exact this
          have HSP := Lib.hid hsp
          clear hsp
          go_wp2_with fail
          refine DX.out.mono ?_
          rintro e w3 ⟨rfl, hb3⟩
          have e4 := keepC hb3 e4
          have e5 := keepC hb3 e5
          have hsz3 := hb3.size
          obtain ⟨G3, hG3⟩ : ∃ G3, G3 = w3.heap.size := ⟨_, rfl⟩
          have KB4 : Hid (Below wr.heap.size wr (w3.alloc (.cells #[.int .u8 2, .int .i64 (kk : Int)] 40))) := belowA hb3 _
          have S4 : Hid (Blk (w3.alloc (.cells #[.int .u8 2, .int .i64 (kk : Int)] 40)) G3 40 #[.int .u8 2, .int .i64 (kk : Int)]) := by rw [hG3]; exact Blk.new _ _ _
          have hG3' : wr.heap.size ≤ G3 := by omega
          have HG3 := Lib.hid hG3
          clear hb3 DX hG3
          go_wp2_with fail
          refine (write_any x vv lay wp.heap.size gb gr gm ga gc n cap r f _ _ (BDR.out.kept KB4.out) x0 x1 b6' b3 b4).mono ?_
          unfold Wrote
          rw [HSP.out]
          rintro e w5 ⟨rfl, ha5, hu5⟩
          have k5 := hu5.blk S4.out (show G3 ≠ ga by omega)
          have p0 : w5.cell? ⟨G3, 0, none⟩ = some (.int .u8 2) := k5.cell 0
          have p1 : w5.cell? ⟨G3, 1, none⟩ = some (.int .i64 (kk : Int)) := k5.cell 1
          have q5 : w5.cell? ⟨B + 1, 2, none⟩ = some (.int .u8 vv) := keepU hu5 (keepAlloc e5 _) (show B + 1 ≠ ga by omega)
          have BD5 := Lib.hid ((BDR.out.kept KB4.out).upd hu5 ha5)
          have HB5 := Lib.hid (hu5.out (belowStep (belowStep HB.out HBW.out) KB4.out) (show w.heap.size ≤ ga by omega))
          have WAS5 : Hid (m = 0 ∨ ∃ gw cw, u10 = .slice (some ⟨gw, 0, none⟩) m cw ∧ Arr w5 .u8 5 gw m (fun j => byteOf f (fun _ => 0) (spotAt lay n r (u j)))) := by
            rcases WAS.out with h | ⟨gw, cw, h1, h2, h3⟩
            · exact Or.inl h
            · exact Or.inr ⟨gw, cw, h1, hu5.arr (h3.kept KB4.out) (show gw ≠ ga by omega)⟩
          have PG := Lib.hid p1
          clear ha5 hu5 k5 e4 e5 p1
          rw [← HG3.out]
          clear HG3
          have hdec : decide ((2 : Int) ≠ 0) = true := by decide
          rw [hdec]
          clear hdec
          go_wp2_with fail
          go_loopw [16] (fun i wx => ∃ (k : Nat), i = .int .i64 k ∧ k ≤ m ∧ Below w5.heap.size w5 wx) (fun i _ => m - (intOf i).toNat)
          case atStart => exact ⟨0, rfl, Nat.zero_le _, Below.refl _ _⟩
          case round =>
            obtain ⟨k, rfl, hk, hbx⟩ := hrel
            have HBX := Lib.hid hbx
            clear hbx
            by_cases hlt : k < m
            · obtain ⟨gw, cw, rfl, hWas⟩ := WAS5.out.resolve_left (by omega)
              obtain ⟨bb, off, rfl, hcl⟩ := Z.out.resolve_left (by omega)
              have x1c := keepC HBX.out (keepC (show Below w.heap.size w w5 from HB5.out) (hcl k hlt))
              have hy := HU.out k hlt
              have hzc := keepC HBX.out (hWas.cell hlt)
              have p0 := keepC HBX.out p0
              have p1 := keepC HBX.out PG.out
              have q5 := keepC HBX.out q5
              obtain ⟨y, hyy⟩ : ∃ y, u k = y := ⟨_, rfl⟩
              rw [hyy] at x1c hy hzc
              obtain ⟨yl, yh⟩ := hy
              clear hcl hyy hWas
              have ht := spotAt_is lay n r y b3 b4
              obtain ⟨⟨tk, ta⟩, htp⟩ : ∃ s, spotAt lay n r y = s := ⟨_, rfl⟩
              rw [htp] at ht
              have HT := Lib.hid htp
              clear htp
              rcases ht with e | ⟨jj, hjj, e⟩ | ⟨jj, hjj, e⟩
              · cases e
                have ev : byteOf f (putOf (fun _ => 0) (2, (kk : Int)) vv) (0, 0) = 0 := by simp [byteOf, putOf]
                have ew : byteOf f (fun _ => 0) (0, 0) = 0 := by simp [byteOf]
                rw [HT.out, ew] at hzc
                have RD : Hid (Calls Try.prog 17 #[.pointer (some ⟨gb, 0, none⟩), .int .u32 y] wr fun e w' => e = .returned (.tuple #[.int .u8 0, .bool false]) ∧ Below wr.heap.size wr w') := by
                  have := read_any y lay _ gb gr gm ga gc n cap r f _ wr (BD5.out.kept HBX.out) yl yh b6' b3 b4
                  rw [HT.out, ev, show decide (((0 : Int), (0 : Int)).1 ≠ 0) = false by simp] at this
                  exact this
                clear ev ew
                go_wp2_with fail
                refine RD.out.mono ?_
                rintro e w6 ⟨rfl, hb6⟩
                have p0 := keepC hb6 p0
                have p1 := keepC hb6 p1
                have q5 := keepC hb6 q5
                have x1c := keepC hb6 x1c
                have hzc := keepC hb6 hzc
                have DD : Hid (Calls Try.prog 19 #[.pointer (some ⟨gb, 0, none⟩), .int .u32 y] w6 fun e w' => e = .returned (.agg #[.int .u8 0, .int .i64 0]) ∧ Below w6.heap.size w6 w') := by
                  have := dec_any y lay gb gr gm ga gc n cap r w6 ((BD5.out.kept HBX.out).kept hb6).cells yl yh b6' b3 b4
                  rw [show spot lay n r (y / 65536 % 256) (y % 65536) = (0, 0) from HT.out] at this
                  exact this
                have HB6 := Lib.hid (belowStep HBX.out hb6)
                clear hb6 RD
                go_wp2_with fail
                refine DD.out.mono ?_
                rintro e w7 ⟨rfl, hb7⟩
                have p0 := keepC hb7 p0
                have p1 := keepC hb7 p1
                have q5 := keepC hb7 q5
                have hzc := keepC hb7 hzc
                have l0' : G3 < w7.heap.size := World.block_lt_of_cell? _ _ p0
                have l1' : B + 1 < w7.heap.size := World.block_lt_of_cell? _ _ q5
                have l2' : gw < w7.heap.size := World.block_lt_of_cell? _ _ hzc
                have HB7 := Lib.hid (belowStep HB6.out hb7)
                clear hb7 DD
                go_wp2_with fail
                go_roundw
                case rel => exact ⟨k + 1, by go_num, by omega, belowA HB7.out _⟩
                case measure => simp [intOf]; omega
              · cases e
                obtain ⟨z, hz⟩ : ∃ z, f jj = z := ⟨_, rfl⟩
                have ev : byteOf f (putOf (fun _ => 0) (2, (kk : Int)) vv) (1, (jj : Int)) = z := by simp [byteOf, hz]
                have ew : byteOf f (fun _ => 0) (1, (jj : Int)) = z := by simp [byteOf, hz]
                clear hz
                rw [HT.out, ew] at hzc
                have RD : Hid (Calls Try.prog 17 #[.pointer (some ⟨gb, 0, none⟩), .int .u32 y] wr fun e w' => e = .returned (.tuple #[.int .u8 z, .bool true]) ∧ Below wr.heap.size wr w') := by
                  have := read_any y lay _ gb gr gm ga gc n cap r f _ wr (BD5.out.kept HBX.out) yl yh b6' b3 b4
                  rw [HT.out, ev, show decide (((1 : Int), ((jj : Int) : Int)).1 ≠ 0) = true by simp] at this
                  exact this
                clear ev ew
                go_wp2_with fail
                refine RD.out.mono ?_
                rintro e w6 ⟨rfl, hb6⟩
                have p0 := keepC hb6 p0
                have p1 := keepC hb6 p1
                have q5 := keepC hb6 q5
                have x1c := keepC hb6 x1c
                have hzc := keepC hb6 hzc
                have DD : Hid (Calls Try.prog 19 #[.pointer (some ⟨gb, 0, none⟩), .int .u32 y] w6 fun e w' => e = .returned (.agg #[.int .u8 1, .int .i64 (jj : Int)]) ∧ Below w6.heap.size w6 w') := by
                  have := dec_any y lay gb gr gm ga gc n cap r w6 ((BD5.out.kept HBX.out).kept hb6).cells yl yh b6' b3 b4
                  rw [show spot lay n r (y / 65536 % 256) (y % 65536) = (1, (jj : Int)) from HT.out] at this
                  exact this
                have HB6 := Lib.hid (belowStep HBX.out hb6)
                clear hb6 RD
                go_wp2_with fail
                refine DD.out.mono ?_
                rintro e w7 ⟨rfl, hb7⟩
                have p0 := keepC hb7 p0
                have p1 := keepC hb7 p1
                have q5 := keepC hb7 q5
                have hzc := keepC hb7 hzc
                have l0' : G3 < w7.heap.size := World.block_lt_of_cell? _ _ p0
                have l1' : B + 1 < w7.heap.size := World.block_lt_of_cell? _ _ q5
                have l2' : gw < w7.heap.size := World.block_lt_of_cell? _ _ hzc
                have HB7 := Lib.hid (belowStep HB6.out hb7)
                clear hb7 DD
                go_wp2_with fail
                go_roundw
                case rel => exact ⟨k + 1, by go_num, by omega, belowA HB7.out _⟩
                case measure => simp [intOf]; omega
              · cases e
                by_cases hjk : jj = kk
                · subst hjk
                  have ev : byteOf f (putOf (fun _ => 0) (2, (jj : Int)) vv) (2, (jj : Int)) = vv := by simp [byteOf, putOf]
                  have ew : byteOf f (fun _ => 0) (2, (jj : Int)) = 0 := by simp [byteOf]
                  rw [HT.out, ew] at hzc
                  have RD : Hid (Calls Try.prog 17 #[.pointer (some ⟨gb, 0, none⟩), .int .u32 y] wr fun e w' => e = .returned (.tuple #[.int .u8 vv, .bool true]) ∧ Below wr.heap.size wr w') := by
                    have := read_any y lay _ gb gr gm ga gc n cap r f _ wr (BD5.out.kept HBX.out) yl yh b6' b3 b4
                    rw [HT.out, ev, show decide (((2 : Int), ((jj : Int) : Int)).1 ≠ 0) = true by simp] at this
                    exact this
                  clear ev ew
                  go_wp2_with fail
                  refine RD.out.mono ?_
                  rintro e w6 ⟨rfl, hb6⟩
                  have p0 := keepC hb6 p0
                  have p1 := keepC hb6 p1
                  have q5 := keepC hb6 q5
                  have x1c := keepC hb6 x1c
                  have hzc := keepC hb6 hzc
                  have DD : Hid (Calls Try.prog 19 #[.pointer (some ⟨gb, 0, none⟩), .int .u32 y] w6 fun e w' => e = .returned (.agg #[.int .u8 2, .int .i64 (jj : Int)]) ∧ Below w6.heap.size w6 w') := by
                    have := dec_any y lay gb gr gm ga gc n cap r w6 ((BD5.out.kept HBX.out).kept hb6).cells yl yh b6' b3 b4
                    rw [show spot lay n r (y / 65536 % 256) (y % 65536) = (2, (jj : Int)) from HT.out] at this
                    exact this
                  have HB6 := Lib.hid (belowStep HBX.out hb6)
                  clear hb6 RD
                  go_wp2_with fail
                  refine DD.out.mono ?_
                  rintro e w7 ⟨rfl, hb7⟩
                  have p0 := keepC hb7 p0
                  have p1 := keepC hb7 p1
                  have q5 := keepC hb7 q5
                  have hzc := keepC hb7 hzc
                  have l0' : G3 < w7.heap.size := World.block_lt_of_cell? _ _ p0
                  have l1' : B + 1 < w7.heap.size := World.block_lt_of_cell? _ _ q5
                  have l2' : gw < w7.heap.size := World.block_lt_of_cell? _ _ hzc
                  have HB7 := Lib.hid (belowStep HB6.out hb7)
                  clear hb7 DD
                  go_wp2_with fail
                  go_roundw
                  case rel => exact ⟨k + 1, by go_num, by omega, belowA HB7.out _⟩
                  case measure => simp [intOf]; omega
                · have ev : byteOf f (putOf (fun _ => 0) (2, (kk : Int)) vv) (2, (jj : Int)) = 0 := by simp [byteOf, putOf, hjk]
                  have ew : byteOf f (fun _ => 0) (2, (jj : Int)) = 0 := by simp [byteOf]
                  rw [HT.out, ew] at hzc
                  have RD : Hid (Calls Try.prog 17 #[.pointer (some ⟨gb, 0, none⟩), .int .u32 y] wr fun e w' => e = .returned (.tuple #[.int .u8 0, .bool true]) ∧ Below wr.heap.size wr w') := by
                    have := read_any y lay _ gb gr gm ga gc n cap r f _ wr (BD5.out.kept HBX.out) yl yh b6' b3 b4
                    rw [HT.out, ev, show decide (((2 : Int), ((jj : Int) : Int)).1 ≠ 0) = true by simp] at this
                    exact this
                  clear ev ew
                  have hjb : ((jj : Int) == (kk : Int)) = false := by simp; omega
                  have HJK := Lib.hid hjk
                  clear hjk
                  go_wp2_with fail
                  refine RD.out.mono ?_
                  rintro e w6 ⟨rfl, hb6⟩
                  have p0 := keepC hb6 p0
                  have p1 := keepC hb6 p1
                  have q5 := keepC hb6 q5
                  have x1c := keepC hb6 x1c
                  have hzc := keepC hb6 hzc
                  have DD : Hid (Calls Try.prog 19 #[.pointer (some ⟨gb, 0, none⟩), .int .u32 y] w6 fun e w' => e = .returned (.agg #[.int .u8 2, .int .i64 (jj : Int)]) ∧ Below w6.heap.size w6 w') := by
                    have := dec_any y lay gb gr gm ga gc n cap r w6 ((BD5.out.kept HBX.out).kept hb6).cells yl yh b6' b3 b4
                    rw [show spot lay n r (y / 65536 % 256) (y % 65536) = (2, (jj : Int)) from HT.out] at this
                    exact this
                  have HB6 := Lib.hid (belowStep HBX.out hb6)
                  clear hb6 RD
                  go_wp2_with fail
                  refine DD.out.mono ?_
                  rintro e w7 ⟨rfl, hb7⟩
                  have p0 := keepC hb7 p0
                  have p1 := keepC hb7 p1
                  have q5 := keepC hb7 q5
                  have hzc := keepC hb7 hzc
                  have l0' : G3 < w7.heap.size := World.block_lt_of_cell? _ _ p0
                  have l1' : B + 1 < w7.heap.size := World.block_lt_of_cell? _ _ q5
                  have l2' : gw < w7.heap.size := World.block_lt_of_cell? _ _ hzc
                  have HB7 := Lib.hid (belowStep HB6.out hb7)
                  clear hb7 DD
                  go_wp2_with fail
                  go_roundw
                  case rel => exact ⟨k + 1, by go_num, by omega, belowA HB7.out _⟩
                  case measure => simp [intOf]; omega
            · clear p0 q5
              go_wp2_with fail
              go_ret
              exact ⟨rfl, belowStep HB5.out HBX.out⟩
  · have HB := Lib.hid (belowStep HP.out hb)
    clear can hb HP
    go_wp2_with fail
    go_ret
    exact ⟨rfl, HB.out⟩

open Go.WideShapes Go.ChangeAt in
set_option maxRecDepth 100000 in
theorem walk (H : Type) (enc : TypeId × Value → H) (W : World) (base : Nat) (v0 v1 v2 : Value) {d0 d1 d2 : DataW H} {p0 p1 p2 : List MemPlace} (k0 : Value.okWide Try.prog W .any base 23 v0) (h0 : DataW.Trod enc Try.prog W 0 (fun _ => true) true 23 v0 d0 p0)
    (k1 : Value.okWide Try.prog W .any base 45 v1) (h1 : DataW.Trod enc Try.prog W 0 (fun _ => true) true 45 v1 d1 p1) (k2 : Value.okWide Try.prog W .any base 46 v2) (h2 : DataW.Trod enc Try.prog W 0 (fun _ => true) true 46 v2 d2 p2)
    (hsz : (DataW.weightsEach Try.prog [23, 45, 46] [d0, d1, d2]).all (· ≤ reachBytes) = true) :
    Calls Try.prog 6 #[v0, v1, v2] W fun e w' => e = .returned (.bool true) ∧ Below W.heap.size W w' := by
  obtain ⟨lay, rom, ram, by_, rfl, l0, l1, y0, y1, r0, r1, _, _⟩ := openPlan k0 h0
  obtain ⟨a0, a1, a2, z0, z1, z2, mm, rfl, rfl, rfl, hy0, hy1, hy2⟩ := Go.Joins.open_agg3 Try.underlying45 (by kernel_rfl) (by kernel_rfl) k1 h1
  obtain ⟨what, e0, rfl, w0⟩ := DataW.trod_int Try.underlying3 hy0
  obtain ⟨x, e1, rfl, w1⟩ := DataW.trod_int Try.underlying35 hy1
  obtain ⟨vv, e2, rfl, w2⟩ := DataW.trod_int Try.underlying5 hy2
  simp at e0 e1 e2
  subst e0 e1 e2
  obtain ⟨m, u, S, hm, _, hw⟩ := openRow (B := 4) Try.underlying46 Try.underlying35 (by kernel_rfl) (by kernel_rfl) k2 h2 (fun elems spare e => sized_slice hsz (j := 2) (t := 46) (e := 35) rfl (by rw [← e]; rfl) Try.underlying46)
  exact law lay rom ram by_ what x vv v2 m u W S (by omega) (fun j hj => wf_u32 (hw j hj)) (wf_u32 w1).1 (wf_u32 w1).2 l0 l1 y0 y1 r0 r1
end Go.Proofs.Ytbfpacngphjkcaa.boardKeeps
