/- The document's clock: Is, Ahead, Order, lost, Room, Least. -/
import Derived.Test.YtfigepnpegnhkaaClkR
namespace Go.Proofs.Ytfigepnpegnhkaa
open Go.RowKit
set_option linter.unusedVariables false
set_option linter.unusedSimpArgs false
set_option maxRecDepth 100000
/-- The document's clock in memory: two rows. -/
structure Rk (w : World) (bs bt n : Nat) (S T : Nat → Int) : Prop where
  sc : Arr w .i64 2 bs n S
  tm : Arr w .i64 2 bt n T
  ne : bs ≠ bt
abbrev rkV (bs cs bt ct n : Nat) : Value := .agg #[.slice (some ⟨bs, 0, none⟩) n cs, .slice (some ⟨bt, 0, none⟩) n ct]
theorem Rk.kept {w w' : World} {bs bt n : Nat} {S T : Nat → Int} (h : Rk w bs bt n S T) (k : Below w.heap.size w w') : Rk w' bs bt n S T := ⟨h.sc.kept k, h.tm.kept k, h.ne⟩
def cnt (T : Nat → Int) (i : Nat) : Nat → Nat | 0 => 0 | m + 1 => cnt T i m + if ahd T m i then 1 else 0
theorem cnt_le (T : Nat → Int) (i : Nat) : ∀ m, cnt T i m + (if i < m then 1 else 0) ≤ m
  | 0 => by simp [cnt]
  | m + 1 => by
    have h := cnt_le T i m
    unfold cnt
    by_cases e : m = i
    · subst e
      rw [if_neg (ahd_irrefl T m), if_pos (show m < m + 1 by omega)]
      rw [if_neg (show ¬ m < m by omega)] at h
      omega
    · by_cases c : i < m
      · rw [if_pos c] at h; rw [if_pos (show i < m + 1 by omega)]; split <;> omega
      · rw [if_neg c] at h; rw [if_neg (show ¬ i < m + 1 by omega)]; split <;> omega
theorem cnt_lt (T : Nat → Int) {a b : Nat} (h : ahd T a b) : ∀ m, cnt T a m + (if a < m then 1 else 0) ≤ cnt T b m
  | 0 => by simp [cnt]
  | m + 1 => by
    have ih := cnt_lt T h m
    unfold cnt
    by_cases e : m = a
    · subst e
      rw [if_neg (ahd_irrefl T m), if_pos (show m < m + 1 by omega), if_pos h]
      rw [if_neg (show ¬ m < m by omega)] at ih
      omega
    · have hk : (if ahd T m a then 1 else 0) ≤ (if ahd T m b then 1 else 0) := by
        by_cases c : ahd T m a
        · rw [if_pos c, if_pos (ahd_trans T c h)]; exact Nat.le_refl _
        · rw [if_neg c]; exact Nat.zero_le _
      by_cases c : a < m
      · rw [if_pos c] at ih; rw [if_pos (show a < m + 1 by omega)]; omega
      · rw [if_neg c] at ih; rw [if_neg (show ¬ a < m + 1 by omega)]; omega
theorem cnt_step (T : Nat → Int) (i m : Nat) : cnt T i (m + 1) = cnt T i m + if ahd T m i then 1 else 0 := rfl
theorem rank_row (T : Nat → Int) (n : Nat) : Row n (fun i => cnt T i n) := by
  constructor
  · intro k hk
    have := cnt_le T k n
    rw [if_pos hk] at this
    show cnt T k n < n
    omega
  · intro i j hi hj e
    by_cases c : i = j
    · exact c
    · have e' : cnt T i n = cnt T j n := e
      rcases ahd_total T c with h | h
      · have := cnt_lt T h n; rw [if_pos hi] at this; omega
      · have := cnt_lt T h n; rw [if_pos hj] at this; omega
theorem ord_of_rank {T : Nat → Int} {n : Nat} {d : Nat → Nat} (h : ∀ i, i < n → d (cnt T i n) = i) : IsOrd n T d := by
  have R := rank_row T n
  refine ⟨⟨fun k hk => ?_, fun p q hp hq e => ?_⟩, fun p q _ h1 h2 => ?_⟩
  · obtain ⟨i, hi, e⟩ := R.onto k hk
    have e' : cnt T i n = k := e
    rw [← e', h i hi]; exact hi
  · obtain ⟨i, hi, ei⟩ := R.onto p hp
    obtain ⟨j, hj, ej⟩ := R.onto q hq
    have ei' : cnt T i n = p := ei
    have ej' : cnt T j n = q := ej
    rw [← ei', ← ej', h i hi, h j hj] at e
    rw [← ei', ← ej', e]
  · obtain ⟨i, hi, ei⟩ := R.onto p (by omega)
    obtain ⟨j, hj, ej⟩ := R.onto q h2
    have ei' : cnt T i n = p := ei
    have ej' : cnt T j n = q := ej
    rw [← ei', ← ej', h i hi, h j hj]
    by_cases c : i = j
    · subst c; omega
    · rcases ahd_total T c with k | k
      · exact k
      · have := cnt_lt T k n
        rw [if_pos hj] at this
        omega
section
variable {w : World} {bs cs bt ct n : Nat} {S T : Nat → Int}
theorem is_any (K : Rk w bs bt n S T) (hn : n ≤ 16) (i : Int) : Calls Try.prog 35 #[rkV bs cs bt ct n, .int .i64 i] w (Says w (.bool (decide (0 ≤ i ∧ i < n)))) := by
  clear K
  by_cases h0 : 0 ≤ i
  · have z0 : decide (0 ≤ i) = true := decide_eq_true h0
    have e : decide (0 ≤ i ∧ i < n) = decide (i < (n : Int)) := by simp [h0]
    rw [e]
    clear e
    go_enter Try.func35, Try.ntmps35
    go_wp2_with fail
    go_ret
    exact ⟨by first | rfl | simp [h0], belowA (Below.refl _ _) _⟩
  · have z0 : decide (0 ≤ i) = false := decide_eq_false h0
    have e : decide (0 ≤ i ∧ i < n) = false := by simp [h0]
    rw [e]
    clear e
    go_enter Try.func35, Try.ntmps35
    go_wp2_with fail
    go_ret
    exact ⟨by first | rfl | simp [h0], belowA (Below.refl _ _) _⟩
set_option maxHeartbeats 4000000 in
theorem rahead_any (K : Rk w bs bt n S T) (hn : n ≤ 16) (i j : Nat) (hi : i < n) (hj : j < n) : Calls Try.prog 39 #[rkV bs cs bt ct n, .int .i64 i, .int .i64 j] w (Says w (.bool (decide (ahd T i j)))) := by
  have V : decide (ahd T i j) = decide (T i < T j ∨ (T i = T j ∧ i < j)) := rfl
  rw [V]
  obtain ⟨x, hx⟩ : ∃ x, T i = x := ⟨_, rfl⟩
  obtain ⟨y, hy⟩ : ∃ x, T j = x := ⟨_, rfl⟩
  have KK := Lib.hid K
  have HX := Lib.hid hx
  have HY := Lib.hid hy
  rw [hx, hy]
  clear V K hx hy
  have zi : (0 : Int) ≤ i := by omega
  have zi2 : (i : Int) < n := by omega
  have zj : (0 : Int) ≤ j := by omega
  have zj2 : (j : Int) < n := by omega
  rcases (show (x < y) ∨ (¬ x < y ∧ x = y ∧ i < j) ∨ (¬ x < y ∧ x = y ∧ ¬ i < j) ∨ (¬ x < y ∧ x ≠ y) by omega) with c1 | ⟨c1, c2, c3⟩ | ⟨c1, c2, c3⟩ | ⟨c1, c2⟩
  all_goals
    have RES : ∃ r : Bool, decide (x < y ∨ (x = y ∧ i < j)) = r := ⟨_, rfl⟩
    first
      | (have e : decide (x < y ∨ (x = y ∧ i < j)) = true := decide_eq_true (by omega))
      | (have e : decide (x < y ∨ (x = y ∧ i < j)) = false := decide_eq_false (by omega))
    rw [e]
    clear e RES
    try (have d1 : decide (x < y) = true := decide_eq_true c1)
    try (have d1 : decide (x < y) = false := decide_eq_false c1)
    try (have d2 : (x == y) = true := by rw [beq_iff_eq]; exact c2)
    try (have d2 : (x == y) = false := by rw [beq_eq_false_iff_ne]; exact c2)
    try (have d3 : decide ((i : Int) < j) = true := decide_eq_true (by omega))
    try (have d3 : decide ((i : Int) < j) = false := decide_eq_false (by omega))
    try (have d4 : decide (i < j) = true := decide_eq_true (by omega))
    try (have d4 : decide (i < j) = false := decide_eq_false (by omega))
    try clear c2
    try clear c3
    try clear c1
    go_enter Try.func39, Try.ntmps39
    go_upto_region 1 with (fail)
    obtain ⟨W1, hW⟩ : ∃ W1, w.alloc (.cells #[.slice (some ⟨bs, 0, none⟩) n cs, .slice (some ⟨bt, 0, none⟩) n ct] 48) = W1 := ⟨_, rfl⟩
    obtain ⟨B, hB⟩ : ∃ B, w.heap.size = B := ⟨_, rfl⟩
    have bw : Below w.heap.size w W1 := by rw [← hW]; exact belowA (Below.refl _ _) _
    have x1 : W1.cell? ⟨B, 1, none⟩ = some (.slice (some ⟨bt, 0, none⟩) n ct) := by rw [← hW, ← hB]; simp [go_sem]
    have k0 := (KK.out.kept bw).tm.cell hi
    have k1 := (KK.out.kept bw).tm.cell hj
    have lb := (KK.out.kept bw).tm.lt
    have lB := World.block_lt_of_cell? _ _ x1
    simp only at lB
    rw [HX.out] at k0
    rw [HY.out] at k1
    rw [hW, hB]
    have BW := Lib.hid bw
    clear hW hB bw
    refine wp_region_more (by kernel_rfl) (by kernel_rfl) ?_
    repeat (go_big_quiet_step (fail))
    refine wpQuiet_nil ?_
    rintro _ ⟨nq, rfl⟩
    have B3 := Lib.hid (BW.out.trans ((below_more nq).mono BW.out.size))
    generalize moreOf W1 nq = w3 at B3 ⊢
    go_wp2_with fail
    go_ret
    exact ⟨rfl, B3.out⟩
set_option maxHeartbeats 4000000 in
theorem rorder_any (K : Rk w bs bt n S T) (h1 : 1 ≤ n) (hn : n ≤ 16) : Calls Try.prog 36 #[rkV bs cs bt ct n] w (fun e w' => ∃ bl d, e = .returned (.slice (some ⟨bl, 0, none⟩) n n) ∧ w.heap.size ≤ bl ∧ Ln w' bl n d ∧ IsOrd n T d ∧ Below w.heap.size w w') := by
  obtain ⟨i0, hi, hz0, hz1, hz2⟩ := info_parts infoI
  have KK := Lib.hid K
  clear K
  go_enter Try.func36, Try.ntmps36
  go_upto_region 1 with (fail)
  obtain ⟨W1, hW⟩ : ∃ W1, w.alloc (.cells #[.slice (some ⟨bs, 0, none⟩) n cs, .slice (some ⟨bt, 0, none⟩) n ct] 48) = W1 := ⟨_, rfl⟩
  obtain ⟨B, hB⟩ : ∃ B, w.heap.size = B := ⟨_, rfl⟩
  have bw : Below w.heap.size w W1 := by rw [← hW]; exact belowA (Below.refl _ _) _
  have x0 : W1.cell? ⟨B, 0, none⟩ = some (.slice (some ⟨bs, 0, none⟩) n cs) := by rw [← hW, ← hB]; simp [go_sem]
  have x1 : W1.cell? ⟨B, 1, none⟩ = some (.slice (some ⟨bt, 0, none⟩) n ct) := by rw [← hW, ← hB]; simp [go_sem]
  rw [hW, hB]
  have BW := Lib.hid bw
  have HBB := Lib.hid hB
  clear hW hB bw
  go_wp2_with (refine wpList_make_full _ rfl _ _ 35 rfl W1.heap.size 3 i0 (.int .i64 0) 1 Try.underlying35 hi hz0 hz1 .i64 .i64 _ _ n rfl rfl rfl rfl (by rw [hz2]; omega) (by unfold maxLen; omega) (Nat.le_refl _) ?_; intro w1 hown hgrow)
  have A0 := Arr.made rfl hown
  have B0 : Below W1.heap.size W1 w1 := (Below.refl _ _).grown hgrow (Nat.le_refl _) (fun _ h => by cases h)
  obtain ⟨bl, hbl⟩ : ∃ g, W1.heap.size = g := ⟨_, rfl⟩
  have z0 := keepC B0 x0
  have z1 := keepC B0 x1
  have K1 := Lib.hid (KK.out.kept (BW.out.trans (B0.mono BW.out.size)))
  have BB := Lib.hid (BW.out.trans (B0.mono BW.out.size))
  rw [hbl] at A0 ⊢
  have A1 := Lib.hid A0
  have HBL : Hid (w.heap.size ≤ bl ∧ bl ≠ B ∧ bl ≠ bs ∧ bl ≠ bt) := Lib.hid (by
    have a := World.block_lt_of_cell? _ _ x0
    have b := KK.out.sc.lt
    have c := KK.out.tm.lt
    have d := BW.out.size
    simp only at a
    omega)
  have Z := Lib.hid (And.intro z0 z1)
  clear hown hgrow A0 B0 x0 x1 z0 z1 hbl KK BW HBB
  go_wp2
  go_loopw [4, 5, 6] (fun i _ _ wr => ∃ (k : Nat) (d : Nat → Int), k ≤ n ∧ i = .int .i64 k ∧ (∀ j, j < k → d (cnt T j n) = j) ∧ Arr wr .i64 3 bl n d ∧ Upd w1 bl wr) (fun i _ _ _ => n - (intOf i).toNat)
  case atStart => exact ⟨0, _, by omega, rfl, fun j hj => absurd hj (by omega), A1.out, Upd.refl _ _⟩
  case round =>
    obtain ⟨k, d, hk, rfl, hd, ar, u⟩ := hrel
    have HD := Lib.hid hd
    have AR := Lib.hid ar
    have U := Lib.hid u
    clear hd ar u
    by_cases hlt : k < n
    · have zk : (k : Int) < n := by omega
      go_wp2_with fail
      go_loopw [5, 6] (fun c i wr => ∃ m : Nat, m ≤ n ∧ i = .int .i64 m ∧ c = .int .i64 (cnt T k m : Nat) ∧ Arr wr .i64 3 bl n d ∧ Upd w1 bl wr) (fun _ i _ => n - (intOf i).toNat)
      case atStart => exact ⟨0, by omega, rfl, rfl, AR.out, U.out⟩
      case round =>
        obtain ⟨m, hm, rfl, rfl, ar, u⟩ := hrel
        have AR2 := Lib.hid ar
        have U2 := Lib.hid u
        clear ar u AR U
        by_cases hlm : m < n
        · have zm : (m : Int) < n := by omega
          have k1 : wr.cell? ⟨B, 0, none⟩ = some (.slice (some ⟨bs, 0, none⟩) n cs) := keepU U2.out Z.out.1 (Ne.symm HBL.out.2.1)
          have k2 : wr.cell? ⟨B, 1, none⟩ = some (.slice (some ⟨bt, 0, none⟩) n ct) := keepU U2.out Z.out.2 (Ne.symm HBL.out.2.1)
          have RK : Rk wr bs bt n S T := ⟨U2.out.arr K1.out.sc (Ne.symm HBL.out.2.2.1), U2.out.arr K1.out.tm (Ne.symm HBL.out.2.2.2), K1.out.ne⟩
          have AH := Lib.hid (rahead_any (cs := cs) (ct := ct) RK hn m k hlm hlt)
          have CS := Lib.hid (cnt_step T k m)
          have hcle : cnt T k m ≤ 16 := by have := cnt_le T k m; omega
          obtain ⟨q, hq⟩ : ∃ q, cnt T k m = q := ⟨_, rfl⟩
          rw [hq] at hcle CS
          rw [hq]
          clear RK hq
          by_cases ha : ahd T m k
          · have CS2 := Lib.hid (show cnt T k (m + 1) = q + 1 by rw [CS.out, if_pos ha])
            rw [decide_eq_true ha] at AH
            clear ha CS
            go_wp2_with fail
            refine AH.out.mono ?_
            rintro e w2 ⟨rfl, b2⟩
            have AR3 := Lib.hid (AR2.out.kept b2)
            have U3 := Lib.hid (U2.out.below b2)
            clear b2 AH AR2 U2 k1 k2
            go_wp2_with fail
            go_roundw
            case rel => exact ⟨m + 1, by omega, by go_num, by rw [CS2.out]; go_num, AR3.out, U3.out⟩
            case measure => simp [intOf]; omega
          · have CS2 := Lib.hid (show cnt T k (m + 1) = q by rw [CS.out, if_neg ha, Nat.add_zero])
            rw [decide_eq_false ha] at AH
            clear ha CS
            go_wp2_with fail
            refine AH.out.mono ?_
            rintro e w2 ⟨rfl, b2⟩
            have AR3 := Lib.hid (AR2.out.kept b2)
            have U3 := Lib.hid (U2.out.below b2)
            clear b2 AH AR2 U2 k1 k2
            go_wp2_with fail
            go_roundw
            case rel => exact ⟨m + 1, by omega, by go_num, by rw [CS2.out], AR3.out, U3.out⟩
            case measure => simp [intOf]; omega
        · have hmn : m = n := by omega
          subst hmn
          have hq := (rank_row T m).lt k hlt
          have hq' : cnt T k m < m := hq
          have NEW := Lib.hid (show ∀ j, j < k + 1 → (fun x => if x = cnt T k m then (k : Int) else d x) (cnt T j m) = j from fun j hj => by
            dsimp only
            by_cases e : j = k
            · subst e; rw [if_pos rfl]
            · rw [if_neg (fun e2 => e ((rank_row T m).inj j k (by omega) hlt e2))]
              exact HD.out j (by omega))
          have NA := Lib.hid (AR2.out.set hq' (k : Int))
          obtain ⟨q, hq2⟩ : ∃ q, cnt T k m = q := ⟨_, rfl⟩
          have y0 : wr.cell? ⟨bl, q, none⟩ = some (.int .i64 (d q)) := AR2.out.cell (by omega)
          have y1 := AR2.out.frozen q
          rw [hq2] at NEW NA hq' ⊢
          have zq : (q : Int) < m := by omega
          have U3 := Lib.hid (U2.out.set q (.int .i64 k))
          clear hq hq2
          go_wp2_with fail
          go_roundw
          case rel => exact ⟨k + 1, _, by omega, by go_num, NEW.out, NA.out, U3.out⟩
          case measure => simp [intOf]; omega
    · have hkn : k = n := by omega
      subst hkn
      have RES : Hid (∃ dd : Nat → Nat, Arr wr .i64 3 bl k (fun x => (dd x : Int)) ∧ IsOrd k T dd) := Lib.hid (by
        refine ⟨fun x => (d x).toNat, AR.out.congr fun j hj => ?_, ord_of_rank fun i hi => ?_⟩
        · obtain ⟨i, hi, e⟩ := (rank_row T k).onto j hj
          have e' : cnt T i k = j := e
          have := HD.out i hi
          rw [e'] at this
          show d j = ((d j).toNat : Int)
          rw [this]; simp
        · show (d (cnt T i k)).toNat = i
          rw [HD.out i hi]; simp)
      have B3 := Lib.hid (U.out.out BB.out HBL.out.1)
      clear AR HD U
      go_wp2_with fail
      go_ret
      obtain ⟨dd, a, o⟩ := RES.out
      exact ⟨bl, dd, rfl, HBL.out.1, a, o, B3.out⟩
set_option maxHeartbeats 2000000 in
theorem least_any (K : Rk w bs bt n S T) (h1 : 1 ≤ n) (hn : n ≤ 16) : Calls Try.prog 26 #[rkV bs cs bt ct n] w (fun e w' => ∃ x, Least T n x ∧ e = .returned (.int .i64 (T x)) ∧ Below w.heap.size w w') := by
  have KK := Lib.hid K
  clear K
  go_enter Try.func26, Try.ntmps26
  go_upto_region 1 with (fail)
  obtain ⟨W1, hW⟩ : ∃ W1, w.alloc (.cells #[.slice (some ⟨bs, 0, none⟩) n cs, .slice (some ⟨bt, 0, none⟩) n ct] 48) = W1 := ⟨_, rfl⟩
  obtain ⟨B, hB⟩ : ∃ B, w.heap.size = B := ⟨_, rfl⟩
  have bw : Below w.heap.size w W1 := by rw [← hW]; exact belowA (Below.refl _ _) _
  have x0 : W1.cell? ⟨B, 0, none⟩ = some (.slice (some ⟨bs, 0, none⟩) n cs) := by rw [← hW, ← hB]; simp [go_sem]
  have x1 : W1.cell? ⟨B, 1, none⟩ = some (.slice (some ⟨bt, 0, none⟩) n ct) := by rw [← hW, ← hB]; simp [go_sem]
  rw [hW, hB]
  have BW := Lib.hid bw
  have K1 := Lib.hid (KK.out.kept bw)
  have lB := World.block_lt_of_cell? _ _ x1
  simp only at lB
  clear hW hB bw KK
  have OR := Lib.hid (fun (w' : World) (h : Below W1.heap.size W1 w') => rorder_any (cs := cs) (ct := ct) (K1.out.kept h) h1 hn)
  have ARM : Hid (∀ (w' w2 : World) (bl : Nat) (d : Nat → Nat), Below W1.heap.size W1 w' → Below w'.heap.size w' w2 → Ln w2 bl n d → IsOrd n T d → w2.cell? ⟨bl, 0, none⟩ = some (.int .i64 (d 0)) ∧ w2.cell? ⟨bt, d 0, none⟩ = some (.int .i64 (T (d 0))) ∧ Least T n (d 0) ∧ w2.cell? ⟨B, 0, none⟩ = some (.slice (some ⟨bs, 0, none⟩) n cs) ∧ w2.cell? ⟨B, 1, none⟩ = some (.slice (some ⟨bt, 0, none⟩) n ct) ∧ (0 : Int) ≤ d 0 ∧ (d 0 : Int) < n) := Lib.hid (fun w' w2 bl d hb h2 ln io => by
    have hb2 := hb.trans (h2.mono hb.size)
    have h0 := io.1.lt 0 (by omega)
    refine ⟨ln.cell (by omega), (K1.out.tm.kept hb2).cell h0, ⟨h0, fun j hj hne => ?_⟩, keepC hb2 x0, keepC hb2 x1, by omega, by omega⟩
    obtain ⟨m, hm, rfl⟩ := io.1.onto j hj
    exact io.2 0 m (by omega) (by rcases Nat.eq_zero_or_pos m with h | h; exact absurd (by rw [h]) hne; exact h) hm)
  go_region_with (go_at_call 36; refine (OR.out _ (by repeat (first | exact Below.refl _ _ | apply belowD | apply belowN))).mono ?_; rintro e w2 ⟨bl, d, rfl, hbl, ln, io, b2⟩; obtain ⟨y0, y1, y2, y3, y4, y5, y6⟩ := ARM.out _ w2 bl d (by repeat (first | exact Below.refl _ _ | apply belowD | apply belowN)) b2 ln io; have Y := Lib.hid y2; have B2 := Lib.hid ((belowD BW.out).trans (b2.mono BW.out.size)); clear b2 ln io hbl y2)
  all_goals
    go_wp2_with fail
    go_ret
    exact ⟨_, Y.out, rfl, B2.out⟩
/-- What lost says. -/
def LostP (W : World) (n : Nat) (S T : Nat → Int) (i : Nat) (t : Int) (e : Ending) (w' : World) : Prop := ∃ p : Bool, (p = true ↔ Lost n S T i t) ∧ e = .returned (.bool p) ∧ Below W.heap.size W w'
set_option maxHeartbeats 8000000 in
theorem lost_any (K : Rk w bs bt n S T) (hn : n ≤ 16) (i : Nat) (hi : i < n) (t : Int) (t0 : 0 ≤ t) (t1 : t ≤ 1073741824) (sc : ∀ j, j < n → 1 ≤ S j ∧ S j ≤ 16777216) (tm : ∀ j, j < n → 0 ≤ T j ∧ T j ≤ 1152921504606846976) :
    Calls Try.prog 40 #[rkV bs cs bt ct n, .int .i64 i, .int .i64 t] w (LostP w n S T i t) := by
  have KK := Lib.hid K
  have TM := Lib.hid tm
  obtain ⟨s0, s1⟩ := sc i hi
  obtain ⟨q0, q1⟩ := tm i hi
  obtain ⟨si, hs⟩ : ∃ s, S i = s := ⟨_, rfl⟩
  obtain ⟨ti, ht⟩ : ∃ s, T i = s := ⟨_, rfl⟩
  rw [hs] at s0 s1
  rw [ht] at q0 q1
  have HS := Lib.hid hs
  have HT := Lib.hid ht
  obtain ⟨m, hm⟩ : ∃ m, t * si = m := ⟨_, rfl⟩
  have hm0 : 0 ≤ m := by rw [← hm]; exact Int.mul_nonneg t0 (by omega)
  have hm1 : m ≤ 18014398509481984 := by
    rw [← hm]
    have h1 : t * si ≤ 1073741824 * si := Int.mul_le_mul_of_nonneg_right t1 (by omega)
    omega
  have HM := Lib.hid hm
  have wm : IntKind.i64.wrap (t * si) = m := by rw [hm]; rw [IntKind.wrap_i64]; omega
  have wa : IntKind.i64.wrap (ti + m) = ti + m := by rw [IntKind.wrap_i64]; omega
  have zi : (0 : Int) ≤ i := by omega
  have zi2 : (i : Int) < n := by omega
  clear K tm sc hs ht
  go_enter Try.func40, Try.ntmps40
  try simp only [List.append_eq, List.cons_append, List.nil_append]
  go_upto_region 1 with (fail)
  obtain ⟨W1, hW⟩ : ∃ W1, w.alloc (.cells #[.slice (some ⟨bs, 0, none⟩) n cs, .slice (some ⟨bt, 0, none⟩) n ct] 48) = W1 := ⟨_, rfl⟩
  obtain ⟨B, hB⟩ : ∃ B, w.heap.size = B := ⟨_, rfl⟩
  have bw : Below w.heap.size w W1 := by rw [← hW]; exact belowA (Below.refl _ _) _
  have x0 : W1.cell? ⟨B, 0, none⟩ = some (.slice (some ⟨bs, 0, none⟩) n cs) := by rw [← hW, ← hB]; simp [go_sem]
  have x1 : W1.cell? ⟨B, 1, none⟩ = some (.slice (some ⟨bt, 0, none⟩) n ct) := by rw [← hW, ← hB]; simp [go_sem]
  rw [hW, hB]
  have BW := Lib.hid bw
  have K1 := Lib.hid (KK.out.kept bw)
  have lB := World.block_lt_of_cell? _ _ x1
  have k0 := K1.out.tm.cell hi
  have k1 := K1.out.sc.cell hi
  have l0 := K1.out.tm.lt
  have l1 := K1.out.sc.lt
  rw [HT.out] at k0
  rw [HS.out] at k1
  simp only at lB
  have X := Lib.hid (And.intro x0 x1)
  clear hW hB bw KK
  refine wp_region_more (by kernel_rfl) (by kernel_rfl) ?_
  repeat (go_big_quiet_step (fail))
  refine wpQuiet_nil ?_
  rintro _ ⟨nq, rfl⟩
  have B3 := Lib.hid (below_more (w := W1) nq)
  generalize moreOf W1 nq = w3 at B3 ⊢
  clear k0 k1 l0 l1 lB x0 x1 wm
  try rw [hm]
  clear hm
  obtain ⟨tt, htt⟩ : ∃ tt, ti + m = tt := ⟨_, rfl⟩
  have HTT := Lib.hid htt
  have htb : tt ≤ 1171000000000000000 := by omega
  rw [htt] at wa
  go_wp2_with fail
  try rw [htt]
  clear wa htt
  have HL : Hid (∀ j : Nat, (j ≠ i ∧ (T j < tt ∨ (T j = tt ∧ j < i))) ↔ (j ≠ i ∧ (T j < T i + t * S i ∨ (T j = T i + t * S i ∧ j < i)))) := Lib.hid (fun j => by rw [HT.out, HS.out, HM.out, HTT.out])
  go_loopw [8] (fun x wr => ∃ k : Nat, k ≤ n ∧ x = .int .i64 k ∧ (∀ j, j < k → ¬ (j ≠ i ∧ (T j < tt ∨ (T j = tt ∧ j < i)))) ∧ Below W1.heap.size W1 wr) (fun x _ => n - (intOf x).toNat)
  case atStart => exact ⟨0, by omega, rfl, fun j hj => absurd hj (by omega), B3.out⟩
  case round =>
    obtain ⟨k, hk, rfl, hno, hb⟩ := hrel
    have NO := Lib.hid hno
    have B4 := Lib.hid hb
    have y0 := keepC hb X.out.1
    have y1 := keepC hb X.out.2
    clear hno hb B3
    by_cases hlt : k < n
    · have zk : (k : Int) < n := by omega
      have zk0 : (0 : Int) ≤ k := by omega
      have k0 := (K1.out.tm.kept B4.out).cell hlt
      have tb := TM.out k hlt
      obtain ⟨x, hx⟩ : ∃ x, T k = x := ⟨_, rfl⟩
      rw [hx] at k0 tb
      have HX := Lib.hid hx
      obtain ⟨tb0, tb1⟩ := tb
      have YES : (k ≠ i ∧ (x < tt ∨ (x = tt ∧ k < i))) → Hid (Lost n S T i t) := fun h => Lib.hid ⟨k, hlt, h.1, by
        have := (HL.out k).1 ⟨h.1, by rw [HX.out]; exact h.2⟩
        exact this.2⟩
      have NON : ¬ (k ≠ i ∧ (x < tt ∨ (x = tt ∧ k < i))) → Hid (∀ j, j < k + 1 → ¬ (j ≠ i ∧ (T j < tt ∨ (T j = tt ∧ j < i)))) := fun h => Lib.hid (fun j hj => by
        by_cases e : j = k
        · subst e; rw [HX.out]; exact h
        · exact NO.out j (by omega))
      clear hx
      rcases (show (k = i) ∨ (k ≠ i ∧ x < tt) ∨ (k ≠ i ∧ ¬ x < tt ∧ x = tt ∧ k < i) ∨ (k ≠ i ∧ ¬ x < tt ∧ x = tt ∧ ¬ k < i) ∨ (k ≠ i ∧ ¬ x < tt ∧ x ≠ tt) by omega) with c0 | ⟨c0, c1⟩ | ⟨c0, c1, c2, c3⟩ | ⟨c0, c1, c2, c3⟩ | ⟨c0, c1, c2⟩
      · have N := NON (fun h => h.1 c0)
        have d0 : ((k : Int) != i) = false := by simp; omega
        have d0' : ((k : Int) == i) = true := by rw [beq_iff_eq]; omega
        clear YES NON c0
        go_wp2_with fail
        go_roundw
        case rel => exact ⟨k + 1, by omega, by go_num, N.out, B4.out⟩
        case measure => simp [intOf]; omega
      · have Y := YES ⟨c0, Or.inl c1⟩
        have d0 : ((k : Int) != i) = true := by simp; omega
        have d0' : ((k : Int) == i) = false := by rw [beq_eq_false_iff_ne]; omega
        have d1 : decide (x < tt) = true := decide_eq_true c1
        clear YES NON c0
        go_wp2_with fail
        go_ret
        exact ⟨true, ⟨fun _ => Y.out, fun _ => rfl⟩, rfl, BW.out.trans (B4.out.mono BW.out.size)⟩
      · have Y := YES ⟨c0, Or.inr ⟨c2, c3⟩⟩
        have d0 : ((k : Int) != i) = true := by simp; omega
        have d0' : ((k : Int) == i) = false := by rw [beq_eq_false_iff_ne]; omega
        have d1 : decide (x < tt) = false := decide_eq_false c1
        have d2 : (x == tt) = true := by rw [beq_iff_eq]; exact c2
        have d3 : decide ((k : Int) < i) = true := decide_eq_true (by omega)
        have d4 : decide (k < i) = true := decide_eq_true (by omega)
        clear YES NON c0 c2
        go_wp2_with fail
        go_ret
        exact ⟨true, ⟨fun _ => Y.out, fun _ => rfl⟩, rfl, BW.out.trans (B4.out.mono BW.out.size)⟩
      · have N := NON (fun h => by omega)
        have d0 : ((k : Int) != i) = true := by simp; omega
        have d0' : ((k : Int) == i) = false := by rw [beq_eq_false_iff_ne]; omega
        have d1 : decide (x < tt) = false := decide_eq_false c1
        have d2 : (x == tt) = true := by rw [beq_iff_eq]; exact c2
        have d3 : decide ((k : Int) < i) = false := decide_eq_false (by omega)
        have d4 : decide (k < i) = false := decide_eq_false (by omega)
        clear YES NON c0 c2
        go_wp2_with fail
        go_roundw
        case rel => exact ⟨k + 1, by omega, by go_num, N.out, B4.out⟩
        case measure => simp [intOf]; omega
      · have N := NON (fun h => by omega)
        have d0 : ((k : Int) != i) = true := by simp; omega
        have d0' : ((k : Int) == i) = false := by rw [beq_eq_false_iff_ne]; omega
        have d1 : decide (x < tt) = false := decide_eq_false c1
        have d2 : (x == tt) = false := by rw [beq_eq_false_iff_ne]; exact c2
        clear YES NON c0 c2
        go_wp2_with fail
        go_roundw
        case rel => exact ⟨k + 1, by omega, by go_num, N.out, B4.out⟩
        case measure => simp [intOf]; omega
    · have hkn : k = n := by omega
      subst hkn
      have NL : Hid (¬ Lost k S T i t) := Lib.hid (fun ⟨j, h1, h2, h3⟩ => NO.out j h1 ((HL.out j).2 ⟨h2, h3⟩))
      go_wp2_with fail
      go_ret
      exact ⟨false, ⟨fun h => absurd h (by decide), fun h => absurd h NL.out⟩, rfl, BW.out.trans (B4.out.mono BW.out.size)⟩
/-- What the document's Room says. -/
def RRoomP (W : World) (n : Nat) (S T : Nat → Int) (i : Nat) (e : Ending) (w' : World) : Prop := ∃ r, IsRoom n S T i r ∧ e = .returned (.int .i64 r) ∧ Below W.heap.size W w'
theorem room_halves {n : Nat} {S T : Nat → Int} {i : Nat} {lo hi : Int} (hs : 1 ≤ S i) (h0 : 0 ≤ lo) (h1 : hi ≤ 1073741824) (hl : ¬ Lost n S T i lo) (hh : Lost n S T i hi) (h : ¬ 1 < hi - lo) (hlt : lo < hi) : IsRoom n S T i hi :=
  ⟨by omega, h1, fun t t0 t1 k => hl (k.mono (by omega) hs), fun _ => hh⟩
set_option maxHeartbeats 4000000 in
theorem rroom_any (K : Rk w bs bt n S T) (hn : n ≤ 16) (i : Nat) (hi : i < n) (sc : ∀ j, j < n → 1 ≤ S j ∧ S j ≤ 16777216) (tm : ∀ j, j < n → 0 ≤ T j ∧ T j ≤ 1152921504606846976) :
    Calls Try.prog 37 #[rkV bs cs bt ct n, .int .i64 i] w (RRoomP w n S T i) := by
  have KK := Lib.hid K
  have hs1 := (sc i hi).1
  have LO := Lib.hid (fun (w' : World) (h : Below w.heap.size w w') (t : Int) (t0 : 0 ≤ t) (t1 : t ≤ 1073741824) => lost_any (cs := cs) (ct := ct) (K.kept h) hn i hi t t0 t1 sc tm)
  have HS := Lib.hid hs1
  clear K sc tm hs1
  go_enter Try.func37, Try.ntmps37
  go_upto_region 1 with (fail)
  obtain ⟨W1, hW⟩ : ∃ W1, w.alloc (.cells #[.slice (some ⟨bs, 0, none⟩) n cs, .slice (some ⟨bt, 0, none⟩) n ct] 48) = W1 := ⟨_, rfl⟩
  obtain ⟨B, hB⟩ : ∃ B, w.heap.size = B := ⟨_, rfl⟩
  have bw : Below w.heap.size w W1 := by rw [← hW]; exact belowA (Below.refl _ _) _
  have x0 : W1.cell? ⟨B, 0, none⟩ = some (.slice (some ⟨bs, 0, none⟩) n cs) := by rw [← hW, ← hB]; simp [go_sem]
  have x1 : W1.cell? ⟨B, 1, none⟩ = some (.slice (some ⟨bt, 0, none⟩) n ct) := by rw [← hW, ← hB]; simp [go_sem]
  rw [hW, hB]
  have BW := Lib.hid bw
  clear hW hB bw
  go_wp2_with fail
  refine (LO.out _ BW.out 0 (by omega) (by omega)).mono ?_
  rintro e w1 ⟨p, hp, rfl, b1⟩
  have B1 := Lib.hid (BW.out.trans (b1.mono BW.out.size))
  have x0 := keepC b1 x0
  have x1 := keepC b1 x1
  have HP := Lib.hid hp
  clear b1 hp
  cases p
  · go_wp2_with fail
    refine (LO.out _ B1.out 1073741824 (by omega) (by omega)).mono ?_
    rintro e w2 ⟨p, hp, rfl, b2⟩
    have B2 := Lib.hid (B1.out.trans (b2.mono B1.out.size))
    have x0 := keepC b2 x0
    have x1 := keepC b2 x1
    have HQ := Lib.hid hp
    clear b2 hp
    cases p
    · go_wp2_with fail
      go_ret
      refine ⟨1073741824, ⟨by omega, by omega, fun t t0 t1 h => ?_, fun h => absurd h (by omega)⟩, rfl, B2.out⟩
      exact absurd (HQ.out.2 (h.mono (by omega) HS.out)) (by decide)
    · have X := Lib.hid (And.intro x0 x1)
      clear x0 x1
      go_wp2_with fail
      go_loopw [5, 6, 7] (fun x y _ wr => ∃ lo hi' : Int, x = .int .i64 lo ∧ y = .int .i64 hi' ∧ 0 ≤ lo ∧ lo < hi' ∧ hi' ≤ 1073741824 ∧ ¬ Lost n S T i lo ∧ Lost n S T i hi' ∧ Below w2.heap.size w2 wr) (fun x y _ _ => (intOf y - intOf x).toNat)
      case atStart => exact ⟨0, 1073741824, rfl, rfl, by omega, by omega, by omega, fun h => absurd (HP.out.2 h) (by decide), HQ.out.1 (by first | trivial | rfl), Below.refl _ _⟩
      case round =>
        obtain ⟨lo, hh, rfl, rfl, l0, l1, l2, nl, yl, hb⟩ := hrel
        have NL := Lib.hid nl
        have YL := Lib.hid yl
        have B3 := Lib.hid (B2.out.trans (hb.mono B2.out.size))
        have B3' := Lib.hid hb
        have x0 := keepC hb X.out.1
        have x1 := keepC hb X.out.2
        clear nl yl hb
        by_cases hc : 1 < hh - lo
        · have zc : decide (1 < hh - lo) = true := decide_eq_true hc
          obtain ⟨md, hmd⟩ : ∃ md, (lo + hh) / 2 = md := ⟨_, rfl⟩
          have m0 : lo < md ∧ md < hh := by omega
          have tq : Int.tdiv (lo + hh) 2 = md := by rw [Int.tdiv_eq_ediv_of_nonneg (by omega)]; exact hmd
          have LM := Lib.hid (LO.out _ B3.out md (by omega) (by omega))
          obtain ⟨m1, m2⟩ := m0
          go_wp2_with fail
          refine LM.out.mono ?_
          rintro e w3 ⟨p, hp, rfl, b3⟩
          have B4 := Lib.hid (B3'.out.trans (b3.mono B3'.out.size))
          have HR := Lib.hid hp
          clear b3 hp LM
          cases p
          · go_wp2_with fail
            go_roundw
            case rel => exact ⟨md, hh, rfl, rfl, by omega, by omega, by omega, fun h => absurd (HR.out.2 h) (by decide), YL.out, B4.out⟩
            case measure => simp [intOf]; omega
          · go_wp2_with fail
            go_roundw
            case rel => exact ⟨lo, md, rfl, rfl, by omega, by omega, by omega, NL.out, HR.out.1 (by first | trivial | rfl), B4.out⟩
            case measure => simp [intOf]; omega
        · have zc : decide (1 < hh - lo) = false := decide_eq_false hc
          have RM := Lib.hid (room_halves HS.out l0 l2 NL.out YL.out hc l1)
          go_wp2_with fail
          go_ret
          exact ⟨hh, RM.out, rfl, B3.out⟩
  · have RM := Lib.hid (show IsRoom n S T i 0 from ⟨by omega, by omega, fun t a b => by omega, fun _ => HP.out.1 (by first | trivial | rfl)⟩)
    go_wp2_with fail
    go_ret
    exact ⟨0, RM.out, rfl, B1.out⟩
end
end Go.Proofs.Ytfigepnpegnhkaa
