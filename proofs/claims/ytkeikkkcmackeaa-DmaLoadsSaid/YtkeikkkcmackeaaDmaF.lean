/- Writes; how a move begins; awake. -/
import Derived.Test.YtkeikkkcmackeaaDmaE
namespace Go.Proofs.Ytkeikkkcmackeaa
open Go.RowKit
set_option linter.unusedVariables false
set_option linter.unusedSimpArgs false
set_option maxRecDepth 100000

theorem wr_at {p : Int} (c k : Nat) (hc : c < 8) (hk : k < 12) (hp : p = 17152 + 16 * c + k) (v : Int) (f : Nat → Int) : wrF p v f = (true, put1 f (c * 12 + k) v) := by
  have h : plc p = some (c * 12 + k) := by
    unfold plc
    rw [if_neg (by omega), if_neg (by omega), if_neg (by omega)]
    congr 1
    omega
  unfold wrF
  rw [if_neg (by omega), if_neg (by omega), h]
theorem or_zero8 (v : Int) (h0 : 0 ≤ v) (h1 : v ≤ 255) : bits .or .u8 0 v = v := byte_fact (P := fun v => bits .or .u8 0 v = v) (by decide +kernel) v h0 h1
theorem wr_go (v : Int) (f : Nat → Int) (h : f 96 = 0) (h0 : 0 ≤ v) (h1 : v ≤ 255) : wrF 16907 v f = (true, put1 (put1 f 97 0) 96 v) := by
  unfold wrF; rw [if_pos rfl, if_pos h, h, or_zero8 v h0 h1]
theorem wr_tab (v : Int) (f : Nat → Int) : wrF 16908 v f = (true, put1 f 98 v) := by
  unfold wrF; rw [if_neg (by decide), if_pos rfl]
theorem rng_zero : Rng (fun _ => 0) := fun _ => ⟨Int.le_refl 0, show (0:Int) ≤ 255 by decide⟩
/-- One write more: of a byte of a channel. -/
theorem write_at {w : World} {g : Nat} {f : Nat → Int} (A : Da w g f) {p : Int} (c k : Nat) (hc : c < 8) (hk : k < 12) (hp : p = 17152 + 16 * c + k) (v : Int) :
    Calls Try.prog 10 #[.pointer (some ⟨g, 0, none⟩), .int .u16 p, .int .u8 v] w (Wrote w g (put1 f (c * 12 + k) v) (.bool true)) := by
  have := write_any A p v (by omega) (by omega)
  rw [wr_at c k hc hk hp] at this
  exact this
theorem write_go {w : World} {g : Nat} {f : Nat → Int} (A : Da w g f) (v : Int) (h : f 96 = 0) (h0 : 0 ≤ v) (h1 : v ≤ 255) :
    Calls Try.prog 10 #[.pointer (some ⟨g, 0, none⟩), .int .u16 16907, .int .u8 v] w (Wrote w g (put1 (put1 f 97 0) 96 v) (.bool true)) := by
  have := write_any A 16907 v (by omega) (by omega)
  rw [wr_go v f h h0 h1] at this
  exact this
theorem write_tab {w : World} {g : Nat} {f : Nat → Int} (A : Da w g f) (v : Int) :
    Calls Try.prog 10 #[.pointer (some ⟨g, 0, none⟩), .int .u16 16908, .int .u8 v] w (Wrote w g (put1 f 98 v) (.bool true)) := by
  have := write_any A 16908 v (by omega) (by omega)
  rw [wr_tab v f] at this
  exact this
/-- A move begins. -/
theorem Mv.init {c : Nat} {m tp bank at_ count : Int} (hc : c < 8) {f : Nat → Int} (R : Rng f) (h0 : f (c * 12) = m) (h1 : f (c * 12 + 1) = tp) (h4 : f (c * 12 + 4) = bank) (ha : wordOf f (c * 12 + 2) = at_) (hn : wordOf f (c * 12 + 5) = count) (hw : f 101 = 0)
    (n : Nat) (hn0 : (count = 0 ∧ n = 65536) ∨ ((n : Int) = count ∧ 0 < n ∧ n < 65536)) : Mv c m tp bank at_ n 0 (put1 (put1 f 97 0) 96 (bitOf c)) := by
  obtain ⟨b0, b1, _, _⟩ := bit_rng c hc
  have wr := wordOf_rng R (c * 12 + 2)
  refine ⟨(R.put1 _ (by omega) (by omega)).put1 _ b0 b1, ?_, ?_, ?_, ?_, ?_, fun _ => ?_, ?_, ?_⟩
  · rw [put1_ne (by omega), put1_ne (by omega), h0]
  · rw [put1_ne (by omega), put1_ne (by omega), h1]
  · rw [put1_ne (by omega), put1_ne (by omega), h4]
  · rw [word_put1 (by omega) (by omega), word_put1 (by omega) (by omega), ha]; simp; omega
  · rw [word_put1 (by omega) (by omega), word_put1 (by omega) (by omega), hn]; omega
  · rw [put1_ne (by omega), put1_at, if_pos rfl]; rfl
  · rw [put1_at, if_pos rfl, if_pos (by omega)]
  · rw [put1_ne (by omega), put1_ne (by omega), hw]

/-- The transfer of a move. -/
def nxT (m tp bank at_ : Int) (n k : Nat) : Int × Int × Int := if k < n then (kindOf m, bank * 65536 + (at_ + k * stepAt m) % 65536, (tp + patOf m k) % 256) else (0, 0, 0)
theorem next_mv {w : World} {g : Nat} {f : Nat → Int} (A : Da w g f) {c : Nat} (hc : c < 8) {m tp bank at_ : Int} {n k : Nat} (M : Mv c m tp bank at_ n k f) :
    Calls Try.prog 11 #[.pointer (some ⟨g, 0, none⟩)] w (Says w (.tuple #[trV (nxT m tp bank at_ n k).1 (nxT m tp bank at_ n k).2.1 (nxT m tp bank at_ n k).2.2, .bool (decide (k < n))])) := by
  by_cases hk : k < n
  · have h96 : f 96 = bitOf c := by rw [M.moves, if_pos hk]
    have := next_move A M.r c hc (by rw [h96]; exact (bit_rng c hc).2.2.1) M.way
    rw [M.next hk] at this
    unfold nxT
    rw [if_pos hk, decide_eq_true hk]
    exact this
  · have h96 : f 96 = 0 := by rw [M.moves, if_neg hk]
    unfold nxT
    rw [if_neg hk, decide_eq_false hk]
    exact next_none A h96 M.way
theorem done_mv {w : World} {g : Nat} {f : Nat → Int} (A : Da w g f) {c : Nat} (hc : c < 8) {m tp bank at_ : Int} {n k : Nat} (M : Mv c m tp bank at_ n k f) (hk : k < n) (v : Int) :
    Calls Try.prog 14 #[.pointer (some ⟨g, 0, none⟩), .int .u8 v] w (Wrote w g (doneM c f) (.tuple #[])) := by
  have h96 : f 96 = bitOf c := by rw [M.moves, if_pos hk]
  exact done_move A M.r c hc (by rw [h96]; exact (bit_rng c hc).2.2.1) M.way v
theorem Blk.ne {w : World} {g g' : Nat} {t t' : TypeId} {cs cs' : Array Value} (h : Blk w g t cs) (k : Blk w g' t' cs') (e : t ≠ t') : g ≠ g' := by
  rintro rfl
  unfold Blk at h k
  rw [h] at k
  cases k
  exact e rfl

set_option maxHeartbeats 4000000 in
theorem awake_any (w : World) : Calls Try.prog 8 #[] w (Says w (.bool true)) := by
  go_enter Try.func8, Try.ntmps8
  try simp only [List.append_eq, List.cons_append, List.nil_append]
  go_wp2_with fail
  refine (new_any w).mono ?_
  rintro e w1 ⟨g, rfl, hg, a1, hb1⟩
  have A1 := Lib.hid a1
  have B1 := Lib.hid hb1
  clear a1 hb1
  go_wp2_with fail
  refine (write_at A1.out 0 0 (by omega) (by omega) (by rfl) 1).mono ?_
  rintro e w2 ⟨rfl, a2, u2⟩
  have A2 := Lib.hid a2
  have B2 := Lib.hid (u2.out B1.out hg)
  clear a2 u2 A1 B1
  go_wp2_with fail
  refine (write_at A2.out 0 1 (by omega) (by omega) (by rfl) 24).mono ?_
  rintro e w3 ⟨rfl, a3, u3⟩
  have A3 := Lib.hid a3
  have B3 := Lib.hid (u3.out B2.out hg)
  clear a3 u3 A2 B2
  go_wp2_with fail
  refine (write_at A3.out 0 4 (by omega) (by omega) (by rfl) 126).mono ?_
  rintro e w4 ⟨rfl, a4, u4⟩
  have A4 := Lib.hid a4
  have B4 := Lib.hid (u4.out B3.out hg)
  clear a4 u4 A3 B3
  go_wp2_with fail
  refine (write_at A4.out 0 5 (by omega) (by omega) (by rfl) 3).mono ?_
  rintro e w5 ⟨rfl, a5, u5⟩
  have A5 := Lib.hid a5
  have B5 := Lib.hid (u5.out B4.out hg)
  clear a5 u5 A4 B4
  go_wp2_with fail
  refine (write_go A5.out 1 (by rfl) (by omega) (by omega)).mono ?_
  rintro e w6 ⟨rfl, a6, u6⟩
  have M0 : Mv 0 1 24 126 0 3 0 (put1 (put1 (put1 (put1 (put1 (put1 (fun _ => 0) (0 * 12 + 0) 1) (0 * 12 + 1) 24) (0 * 12 + 4) 126) (0 * 12 + 5) 3) 97 0) 96 1) := by
    have R0 : Rng (put1 (put1 (put1 (put1 (fun _ => 0) (0 * 12 + 0) 1) (0 * 12 + 1) 24) (0 * 12 + 4) 126) (0 * 12 + 5) 3) := (((rng_zero.put1 _ (by omega) (by omega)).put1 _ (by omega) (by omega)).put1 _ (by omega) (by omega)).put1 _ (by omega) (by omega)
    exact Mv.init (c := 0) (count := 3) (by omega) R0 rfl rfl rfl rfl rfl rfl 3 (by decide)
  obtain ⟨f6, hf6⟩ : ∃ f, put1 (put1 (put1 (put1 (put1 (put1 (fun _ => 0) (0 * 12 + 0) 1) (0 * 12 + 1) 24) (0 * 12 + 4) 126) (0 * 12 + 5) 3) 97 0) 96 1 = f := ⟨_, rfl⟩
  rw [hf6] at M0 a6
  have A6 := Lib.hid a6
  have B6 := Lib.hid (u6.out B5.out hg)
  have HM := Lib.hid M0
  clear a6 u6 A5 B5 hf6 M0
  go_wp2_with fail
  refine (next_mv A6.out (by omega) HM.out).mono ?_
  rintro e w7 ⟨rfl, hb7⟩
  have A7 := Lib.hid (A6.out.kept hb7)
  have B7 := Lib.hid (B6.out.trans (hb7.mono B6.out.size))
  clear hb7 A6 B6
  go_wp2_with fail
  obtain ⟨W8, hW⟩ : ∃ W8, W8 = w7.alloc (.cells #[.int .u8 (nxT 1 24 126 0 3 0).1, .int .u32 (nxT 1 24 126 0 3 0).2.1, .int .u8 (nxT 1 24 126 0 3 0).2.2] 30) := ⟨_, rfl⟩
  obtain ⟨gx, hgx⟩ : ∃ gx, gx = w7.heap.size := ⟨_, rfl⟩
  have X8 : Hid (Blk W8 gx 30 #[.int .u8 (nxT 1 24 126 0 3 0).1, .int .u32 (nxT 1 24 126 0 3 0).2.1, .int .u8 (nxT 1 24 126 0 3 0).2.2]) := by rw [hW, hgx]; exact Blk.new _ _ _
  have A8 : Hid (Da W8 g f6) := by rw [hW]; exact A7.out.alloc _
  have B8 : Hid (Below w.heap.size w W8) := by rw [hW]; exact belowA B7.out _
  have hgx' : w.heap.size ≤ gx := by rw [hgx]; exact B7.out.size
  rw [← hW, ← hgx]
  clear hW hgx A7 B7
  go_loopw [2, 3, 4] (fun i x is wr => ∃ k f gx, k ≤ 3 ∧ i = .int .i64 (k : Nat) ∧ x = .pointer (some ⟨gx, 0, none⟩) ∧ is = .bool (decide (k < 3)) ∧ Da wr g f ∧ Mv 0 1 24 126 0 3 k f ∧ Blk wr gx 30 #[.int .u8 (nxT 1 24 126 0 3 k).1, .int .u32 (nxT 1 24 126 0 3 k).2.1, .int .u8 (nxT 1 24 126 0 3 k).2.2] ∧ w.heap.size ≤ gx ∧ Below w.heap.size w wr) (fun i _ _ _ => 3 - (intOf i).toNat)
  case atStart => exact ⟨0, f6, gx, by omega, rfl, rfl, rfl, A8.out, HM.out, X8.out, hgx', B8.out⟩
  case round =>
    obtain ⟨k, f, gx, hk, rfl, rfl, rfl, a, mv, bx, hx, bw⟩ := hrel
    have hne : g ≠ gx := by
      obtain ⟨cs, q, _⟩ := a
      exact Blk.ne q bx (by decide)
    have A := Lib.hid a
    have M := Lib.hid mv
    have BX := Lib.hid bx
    have BW := Lib.hid bw
    clear a mv bx bw A8 HM X8 B8
    rcases (show k = 0 ∨ k = 1 ∨ k = 2 ∨ k = 3 by omega) with rfl | rfl | rfl | rfl
    · have x0 : wr.cell? ⟨gx, 0, none⟩ = some (.int .u8 2) := BX.out.cell 0
      have x1 : wr.cell? ⟨gx, 1, none⟩ = some (.int .u32 8257536) := BX.out.cell 1
      have x2 : wr.cell? ⟨gx, 2, none⟩ = some (.int .u8 24) := BX.out.cell 2
      go_wp2_with fail
      refine (done_mv A.out (by omega) M.out (by omega) 0).mono ?_
      rintro e w8 ⟨rfl, a8, u8⟩
      have x0 := keepU u8 x0 (by show gx ≠ g; omega)
      have x1 := keepU u8 x1 (by show gx ≠ g; omega)
      have x2 := keepU u8 x2 (by show gx ≠ g; omega)
      have M8 := Lib.hid (M.out.step (by omega) (by omega) (by omega))
      obtain ⟨f', hf'⟩ : ∃ f', doneM 0 f = f' := ⟨_, rfl⟩
      rw [hf'] at a8 M8
      have A8 := Lib.hid a8
      have B8 := Lib.hid (u8.out BW.out hg)
      clear a8 u8 A BX BW M hf'
      go_wp2_with fail
      obtain ⟨W9, hW⟩ : ∃ W9, W9 = w8.alloc (.cells #[.int .u8 2, .int .u32 8257536, .int .u8 24] 30) := ⟨_, rfl⟩
      obtain ⟨gy, hgy⟩ : ∃ gy, gy = w8.heap.size := ⟨_, rfl⟩
      have X9 : Hid (Blk W9 gy 30 #[.int .u8 2, .int .u32 8257536, .int .u8 24]) := by rw [hW, hgy]; exact Blk.new _ _ _
      have A9 : Hid (Da W9 g f') := by rw [hW]; exact A8.out.alloc _
      have B9 : Hid (Below w.heap.size w W9) := by rw [hW]; exact belowA B8.out _
      have hgy' : w.heap.size ≤ gy := by rw [hgy]; exact B8.out.size
      rw [← hW, ← hgy]
      clear hW hgy A8 B8 x0 x1 x2
      refine (next_mv A9.out (by omega) M8.out).mono ?_
      rintro e w10 ⟨rfl, hb10⟩
      have bx := X9.out.kept hb10
      have y0 := bx.cell 0
      have y1 := bx.cell 1
      have y2 := bx.cell 2
      have z0 := bx.frozen 0
      have z1 := bx.frozen 1
      have z2 := bx.frozen 2
      have BX := Lib.hid bx
      have A10 := Lib.hid (A9.out.kept hb10)
      have B10 := Lib.hid (B9.out.trans (hb10.mono B9.out.size))
      clear hb10 bx A9 B9 X9
      go_wp2_with fail
      have bz := ((BX.out.set_ 0 (.int .u8 (nxT 1 24 126 0 3 1).1)).set_ 1 (.int .u32 (nxT 1 24 126 0 3 1).2.1)).set_ 2 (.int .u8 (nxT 1 24 126 0 3 1).2.2)
      have hne2 : g ≠ gy := by
        obtain ⟨cs, q, _⟩ := A10.out
        exact Blk.ne q BX.out (by decide)
      have az := ((A10.out.other (p := ⟨gy, 0, none⟩) (Ne.symm hne2) (.int .u8 (nxT 1 24 126 0 3 1).1)).other (p := ⟨gy, 1, none⟩) (Ne.symm hne2) (.int .u32 (nxT 1 24 126 0 3 1).2.1)).other (p := ⟨gy, 2, none⟩) (Ne.symm hne2) (.int .u8 (nxT 1 24 126 0 3 1).2.2)
      have BZ := belowS (belowS (belowS B10.out (p := ⟨gy, 0, none⟩) hgy' (.int .u8 (nxT 1 24 126 0 3 1).1)) (p := ⟨gy, 1, none⟩) hgy' (.int .u32 (nxT 1 24 126 0 3 1).2.1)) (p := ⟨gy, 2, none⟩) hgy' (.int .u8 (nxT 1 24 126 0 3 1).2.2)
      exact ⟨⟨1, f', gy, by omega, rfl, rfl, rfl, az, M8.out, by simpa using bz, hgy', BZ⟩, by decide⟩
    · have x0 : wr.cell? ⟨gx, 0, none⟩ = some (.int .u8 2) := BX.out.cell 0
      have x1 : wr.cell? ⟨gx, 1, none⟩ = some (.int .u32 8257537) := BX.out.cell 1
      have x2 : wr.cell? ⟨gx, 2, none⟩ = some (.int .u8 25) := BX.out.cell 2
      go_wp2_with fail
      refine (done_mv A.out (by omega) M.out (by omega) 0).mono ?_
      rintro e w8 ⟨rfl, a8, u8⟩
      have x0 := keepU u8 x0 (by show gx ≠ g; omega)
      have x1 := keepU u8 x1 (by show gx ≠ g; omega)
      have x2 := keepU u8 x2 (by show gx ≠ g; omega)
      have M8 := Lib.hid (M.out.step (by omega) (by omega) (by omega))
      obtain ⟨f', hf'⟩ : ∃ f', doneM 0 f = f' := ⟨_, rfl⟩
      rw [hf'] at a8 M8
      have A8 := Lib.hid a8
      have B8 := Lib.hid (u8.out BW.out hg)
      clear a8 u8 A BX BW M hf'
      go_wp2_with fail
      obtain ⟨W9, hW⟩ : ∃ W9, W9 = w8.alloc (.cells #[.int .u8 2, .int .u32 8257537, .int .u8 25] 30) := ⟨_, rfl⟩
      obtain ⟨gy, hgy⟩ : ∃ gy, gy = w8.heap.size := ⟨_, rfl⟩
      have X9 : Hid (Blk W9 gy 30 #[.int .u8 2, .int .u32 8257537, .int .u8 25]) := by rw [hW, hgy]; exact Blk.new _ _ _
      have A9 : Hid (Da W9 g f') := by rw [hW]; exact A8.out.alloc _
      have B9 : Hid (Below w.heap.size w W9) := by rw [hW]; exact belowA B8.out _
      have hgy' : w.heap.size ≤ gy := by rw [hgy]; exact B8.out.size
      rw [← hW, ← hgy]
      clear hW hgy A8 B8 x0 x1 x2
      refine (next_mv A9.out (by omega) M8.out).mono ?_
      rintro e w10 ⟨rfl, hb10⟩
      have bx := X9.out.kept hb10
      have y0 := bx.cell 0
      have y1 := bx.cell 1
      have y2 := bx.cell 2
      have z0 := bx.frozen 0
      have z1 := bx.frozen 1
      have z2 := bx.frozen 2
      have BX := Lib.hid bx
      have A10 := Lib.hid (A9.out.kept hb10)
      have B10 := Lib.hid (B9.out.trans (hb10.mono B9.out.size))
      clear hb10 bx A9 B9 X9
      go_wp2_with fail
      have bz := ((BX.out.set_ 0 (.int .u8 (nxT 1 24 126 0 3 2).1)).set_ 1 (.int .u32 (nxT 1 24 126 0 3 2).2.1)).set_ 2 (.int .u8 (nxT 1 24 126 0 3 2).2.2)
      have hne2 : g ≠ gy := by
        obtain ⟨cs, q, _⟩ := A10.out
        exact Blk.ne q BX.out (by decide)
      have az := ((A10.out.other (p := ⟨gy, 0, none⟩) (Ne.symm hne2) (.int .u8 (nxT 1 24 126 0 3 2).1)).other (p := ⟨gy, 1, none⟩) (Ne.symm hne2) (.int .u32 (nxT 1 24 126 0 3 2).2.1)).other (p := ⟨gy, 2, none⟩) (Ne.symm hne2) (.int .u8 (nxT 1 24 126 0 3 2).2.2)
      have BZ := belowS (belowS (belowS B10.out (p := ⟨gy, 0, none⟩) hgy' (.int .u8 (nxT 1 24 126 0 3 2).1)) (p := ⟨gy, 1, none⟩) hgy' (.int .u32 (nxT 1 24 126 0 3 2).2.1)) (p := ⟨gy, 2, none⟩) hgy' (.int .u8 (nxT 1 24 126 0 3 2).2.2)
      exact ⟨⟨2, f', gy, by omega, rfl, rfl, rfl, az, M8.out, by simpa using bz, hgy', BZ⟩, by decide⟩
    · have x0 : wr.cell? ⟨gx, 0, none⟩ = some (.int .u8 2) := BX.out.cell 0
      have x1 : wr.cell? ⟨gx, 1, none⟩ = some (.int .u32 8257538) := BX.out.cell 1
      have x2 : wr.cell? ⟨gx, 2, none⟩ = some (.int .u8 24) := BX.out.cell 2
      go_wp2_with fail
      refine (done_mv A.out (by omega) M.out (by omega) 0).mono ?_
      rintro e w8 ⟨rfl, a8, u8⟩
      have x0 := keepU u8 x0 (by show gx ≠ g; omega)
      have x1 := keepU u8 x1 (by show gx ≠ g; omega)
      have x2 := keepU u8 x2 (by show gx ≠ g; omega)
      have M8 := Lib.hid (M.out.step (by omega) (by omega) (by omega))
      obtain ⟨f', hf'⟩ : ∃ f', doneM 0 f = f' := ⟨_, rfl⟩
      rw [hf'] at a8 M8
      have A8 := Lib.hid a8
      have B8 := Lib.hid (u8.out BW.out hg)
      clear a8 u8 A BX BW M hf'
      go_wp2_with fail
      obtain ⟨W9, hW⟩ : ∃ W9, W9 = w8.alloc (.cells #[.int .u8 2, .int .u32 8257538, .int .u8 24] 30) := ⟨_, rfl⟩
      obtain ⟨gy, hgy⟩ : ∃ gy, gy = w8.heap.size := ⟨_, rfl⟩
      have X9 : Hid (Blk W9 gy 30 #[.int .u8 2, .int .u32 8257538, .int .u8 24]) := by rw [hW, hgy]; exact Blk.new _ _ _
      have A9 : Hid (Da W9 g f') := by rw [hW]; exact A8.out.alloc _
      have B9 : Hid (Below w.heap.size w W9) := by rw [hW]; exact belowA B8.out _
      have hgy' : w.heap.size ≤ gy := by rw [hgy]; exact B8.out.size
      rw [← hW, ← hgy]
      clear hW hgy A8 B8 x0 x1 x2
      refine (next_mv A9.out (by omega) M8.out).mono ?_
      rintro e w10 ⟨rfl, hb10⟩
      have bx := X9.out.kept hb10
      have y0 := bx.cell 0
      have y1 := bx.cell 1
      have y2 := bx.cell 2
      have z0 := bx.frozen 0
      have z1 := bx.frozen 1
      have z2 := bx.frozen 2
      have BX := Lib.hid bx
      have A10 := Lib.hid (A9.out.kept hb10)
      have B10 := Lib.hid (B9.out.trans (hb10.mono B9.out.size))
      clear hb10 bx A9 B9 X9
      go_wp2_with fail
      have bz := ((BX.out.set_ 0 (.int .u8 (nxT 1 24 126 0 3 3).1)).set_ 1 (.int .u32 (nxT 1 24 126 0 3 3).2.1)).set_ 2 (.int .u8 (nxT 1 24 126 0 3 3).2.2)
      have hne2 : g ≠ gy := by
        obtain ⟨cs, q, _⟩ := A10.out
        exact Blk.ne q BX.out (by decide)
      have az := ((A10.out.other (p := ⟨gy, 0, none⟩) (Ne.symm hne2) (.int .u8 (nxT 1 24 126 0 3 3).1)).other (p := ⟨gy, 1, none⟩) (Ne.symm hne2) (.int .u32 (nxT 1 24 126 0 3 3).2.1)).other (p := ⟨gy, 2, none⟩) (Ne.symm hne2) (.int .u8 (nxT 1 24 126 0 3 3).2.2)
      have BZ := belowS (belowS (belowS B10.out (p := ⟨gy, 0, none⟩) hgy' (.int .u8 (nxT 1 24 126 0 3 3).1)) (p := ⟨gy, 1, none⟩) hgy' (.int .u32 (nxT 1 24 126 0 3 3).2.1)) (p := ⟨gy, 2, none⟩) hgy' (.int .u8 (nxT 1 24 126 0 3 3).2.2)
      exact ⟨⟨3, f', gy, by omega, rfl, rfl, rfl, az, M8.out, by simpa using bz, hgy', BZ⟩, by decide⟩
    · have x0 : wr.cell? ⟨gx, 0, none⟩ = some (.int .u8 0) := BX.out.cell 0
      go_wp2_with fail
      go_ret
      exact ⟨rfl, BW.out⟩
end Go.Proofs.Ytkeikkkcmackeaa
