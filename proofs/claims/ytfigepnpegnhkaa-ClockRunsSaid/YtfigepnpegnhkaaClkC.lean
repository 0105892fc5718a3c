/- kit.CopyLongs; slices.Min, slices.Max of long numbers. -/
import Derived.Test.YtfigepnpegnhkaaChecked
import Derived.Test.YtfigepnpegnhkaaClkB
import Derived.ProofKit
import Derived.Deep.DeepMust
import Derived.OpenShut
import Derived.SizedLaws
namespace Go.Proofs.Ytfigepnpegnhkaa
open Go.RowKit
set_option linter.unusedVariables false

theorem infoI64 : (Try.prog.info? 2).map (fun i => (i.zero, i.size, i.bytes)) = some (some (.int .i64 0), 1, 8) := by kernel_rfl

def Fresh (W : World) (k : IntKind) (E : TypeId) (n : Nat) (f : Nat → Int) (e : Ending) (w' : World) : Prop :=
  ∃ g, e = .returned (.slice (some ⟨g, 0, none⟩) n n) ∧ W.heap.size ≤ g ∧ Arr w' k E g n f ∧ Below W.heap.size W w'

set_option maxHeartbeats 400000 in
theorem copyLongs_any (v : Value) (n : Nat) (f : Nat → Int) (w : World) (S : Sees w .i64 v n f) (hn : n ≤ 17592186044416) :
    Calls Try.prog 10 #[v] w (Fresh w .i64 2 n f) := by
  obtain ⟨ao, c, rfl, hs⟩ := S
  obtain ⟨i0, hi, hz0, hz1, hz2⟩ := info_parts infoI64
  have Z := Lib.hid hs
  clear hs
  go_enter Try.func10, Try.ntmps10
  go_wp2_with (refine wpList_make_full _ rfl _ _ 22 rfl w.heap.size 2 i0 (.int .i64 0) 1 Try.underlying22 hi hz0 hz1 .i64 .i64 _ _ n rfl rfl rfl rfl (by rw [hz2]; omega) (by unfold maxLen; omega) (Nat.le_refl _) ?_; intro w1 hown hgrow)
  have A0 := Arr.made rfl hown
  have B0 : Below w.heap.size w w1 := (Below.refl _ _).grown hgrow (Nat.le_refl _) (fun _ h => by cases h)
  have G1 : w.heap.size < w1.heap.size := A0.lt
  have A1 := Lib.hid A0
  have B1 := Lib.hid B0
  clear hown hgrow A0 B0
  obtain ⟨g, hg⟩ : ∃ g, w.heap.size = g := ⟨_, rfl⟩
  rw [hg]
  rw [hg] at A1 G1 B1
  go_wp2
  go_loopw [4] (fun i wr => ∃ k : Nat, k ≤ n ∧ i = .int .i64 k ∧ Arr wr .i64 2 g n (fun j => if j < k then f j else 0) ∧ Below w.heap.size w wr) (fun i _ => n - (intOf i).toNat)
  case atStart => exact ⟨0, Nat.zero_le _, rfl, A1.out.congr (fun j _ => by simp), by rw [hg]; exact B1.out⟩
  case round =>
    obtain ⟨k, hk, rfl, ha, hb⟩ := hrel
    have HA := Lib.hid ha
    have HB := Lib.hid hb
    clear ha hb
    by_cases hlt : k < n
    · have h0 : ∃ b off, ao = some ⟨b, off, none⟩ ∧ ∀ j, j < n → w.cell? ⟨b, off + j, none⟩ = some (.int .i64 (f j)) := Z.out.resolve_left (by omega)
      obtain ⟨b, off, rfl, hc⟩ := h0
      have hb0 : b < w.heap.size := World.block_lt_of_cell? _ _ (hc k hlt)
      have hck : wr.cell? ⟨b, off + k, none⟩ = some (.int .i64 (f k)) := by rw [← hc k hlt]; exact HB.out.cell (p := ⟨b, off + k, none⟩) hb0
      have hgk := HA.out.cell hlt
      have hfk := HA.out.frozen k
      have HC := Lib.hid hc
      clear hc
      go_wp2
      go_roundw
      case rel => exact ⟨k + 1, by omega, by go_num, (HA.out.set hlt (f k)).congr (fun j _ => by by_cases e : j = k <;> simp [e] <;> (try split) <;> (try omega) <;> rfl), HB.out.setCell (by rw [hg]; exact Nat.le_refl _) _⟩
      case measure => simp [intOf]; omega
    · go_wp2
      go_ret
      exact ⟨g, rfl, by omega, HA.out.congr (fun j hj => by rw [if_pos (by omega)]), HB.out⟩


/-- The least, the greatest of a row. -/
def minF (f : Nat → Int) : Nat → Int | 0 => f 0 | k + 1 => min (minF f k) (f (k + 1))
def maxF (f : Nat → Int) : Nat → Int | 0 => f 0 | k + 1 => max (maxF f k) (f (k + 1))
theorem minF_le (f : Nat → Int) : ∀ k j, j ≤ k → minF f k ≤ f j
  | 0, j, h => by have : j = 0 := by omega
                  subst this; exact Int.le_refl _
  | k + 1, j, h => by
    unfold minF
    by_cases e : j = k + 1
    · subst e; omega
    · have := minF_le f k j (by omega); omega
theorem le_maxF (f : Nat → Int) : ∀ k j, j ≤ k → f j ≤ maxF f k
  | 0, j, h => by have : j = 0 := by omega
                  subst this; exact Int.le_refl _
  | k + 1, j, h => by
    unfold maxF
    by_cases e : j = k + 1
    · subst e; omega
    · have := le_maxF f k j (by omega); omega
theorem minF_at (f : Nat → Int) : ∀ k, ∃ j, j ≤ k ∧ minF f k = f j
  | 0 => ⟨0, by omega, rfl⟩
  | k + 1 => by
    obtain ⟨j, hj, e⟩ := minF_at f k
    unfold minF
    by_cases h : minF f k ≤ f (k + 1)
    · exact ⟨j, by omega, by omega⟩
    · exact ⟨k + 1, by omega, by omega⟩
theorem maxF_at (f : Nat → Int) : ∀ k, ∃ j, j ≤ k ∧ maxF f k = f j
  | 0 => ⟨0, by omega, rfl⟩
  | k + 1 => by
    obtain ⟨j, hj, e⟩ := maxF_at f k
    unfold maxF
    by_cases h : f (k + 1) ≤ maxF f k
    · exact ⟨j, by omega, by omega⟩
    · exact ⟨k + 1, by omega, by omega⟩
set_option maxHeartbeats 1000000 in
theorem min_any (v : Value) (n : Nat) (f : Nat → Int) (w : World) (S : Sees w .i64 v (n + 1) f) (hn : n ≤ 1099511627776) :
    Calls Try.prog 28 #[v] w (Says w (.int .i64 (minF f n))) := by
  obtain ⟨ao, c, rfl, hs⟩ := S
  obtain ⟨b, off, rfl, hc⟩ := hs.resolve_left (by omega)
  have x0 : w.cell? ⟨b, off, none⟩ = some (.int .i64 (f 0)) := hc 0 (by omega)
  have HC := Lib.hid hc
  have z : ∀ m : Nat, m = n + 1 → Calls Try.prog 28 #[.slice (some ⟨b, off, none⟩) m c] w (Says w (.int .i64 (minF f n))) := by
    intro m hm
    have q1 : decide ((m : Int) < 1) = false := decide_eq_false (by omega)
    have hn2 : (0 : Int) < m := by omega
    have HM := Lib.hid hm
    have hm2 : m ≤ 1099511627777 := by omega
    clear hs hc hm hn
    go_enter Try.func28, Try.ntmps28
    go_wp2_with fail
    go_loopw [3, 4] (fun x i wr => ∃ k : Nat, k ≤ n ∧ i = .int .i64 ((k + 1 : Nat) : Int) ∧ x = .int .i64 (minF f k) ∧ wr = w) (fun _ i _ => m - (intOf i).toNat)
    case atStart => exact ⟨0, by omega, rfl, rfl, by first | rfl | trivial⟩
    case round =>
      obtain ⟨k, hk, rfl, rfl, rfl⟩ := hrel
      obtain ⟨j, hj⟩ : ∃ j, j = k + 1 := ⟨_, rfl⟩
      have E : Hid (minF f (k + 1) = min (minF f k) (f (k + 1))) := Lib.hid rfl
      have HJ := Lib.hid hj
      rw [← hj] at E
      rw [← hj]
      obtain ⟨x, hx⟩ : ∃ x, minF f k = x := ⟨_, rfl⟩
      rw [hx] at E
      have HX := Lib.hid hx
      rw [hx]
      by_cases hlt : j < m
      · have c1 := HC.out j (by have := HM.out; omega)
        have hz : (j : Int) < m := by omega
        obtain ⟨y, hy⟩ : ∃ y, f j = y := ⟨_, rfl⟩
        rw [hy] at c1 E
        clear hx hy hj
        go_wp2_with fail
        go_roundw
        case rel => exact ⟨j, by have := HM.out; omega, by go_num, by rw [E.out], by first | rfl | trivial⟩
        case measure => simp [intOf]; omega
      · have hkn : k = n := by have := HM.out; omega
        subst hkn
        clear hx hj
        go_wp2_with fail
        go_ret
        exact ⟨by rw [HX.out]; exact rfl, Below.refl _ _⟩
  exact z _ rfl
set_option maxHeartbeats 1000000 in
theorem max_any (v : Value) (n : Nat) (f : Nat → Int) (w : World) (S : Sees w .i64 v (n + 1) f) (hn : n ≤ 1099511627776) :
    Calls Try.prog 29 #[v] w (Says w (.int .i64 (maxF f n))) := by
  obtain ⟨ao, c, rfl, hs⟩ := S
  obtain ⟨b, off, rfl, hc⟩ := hs.resolve_left (by omega)
  have x0 : w.cell? ⟨b, off, none⟩ = some (.int .i64 (f 0)) := hc 0 (by omega)
  have HC := Lib.hid hc
  have z : ∀ m : Nat, m = n + 1 → Calls Try.prog 29 #[.slice (some ⟨b, off, none⟩) m c] w (Says w (.int .i64 (maxF f n))) := by
    intro m hm
    have q1 : decide ((m : Int) < 1) = false := decide_eq_false (by omega)
    have hn2 : (0 : Int) < m := by omega
    have HM := Lib.hid hm
    have hm2 : m ≤ 1099511627777 := by omega
    clear hs hc hm hn
    go_enter Try.func29, Try.ntmps29
    go_wp2_with fail
    go_loopw [3, 4] (fun x i wr => ∃ k : Nat, k ≤ n ∧ i = .int .i64 ((k + 1 : Nat) : Int) ∧ x = .int .i64 (maxF f k) ∧ wr = w) (fun _ i _ => m - (intOf i).toNat)
    case atStart => exact ⟨0, by omega, rfl, rfl, by first | rfl | trivial⟩
    case round =>
      obtain ⟨k, hk, rfl, rfl, rfl⟩ := hrel
      obtain ⟨j, hj⟩ : ∃ j, j = k + 1 := ⟨_, rfl⟩
      have E : Hid (maxF f (k + 1) = max (maxF f k) (f (k + 1))) := Lib.hid rfl
      have HJ := Lib.hid hj
      rw [← hj] at E
      rw [← hj]
      obtain ⟨x, hx⟩ : ∃ x, maxF f k = x := ⟨_, rfl⟩
      rw [hx] at E
      have HX := Lib.hid hx
      rw [hx]
      by_cases hlt : j < m
      · have c1 := HC.out j (by have := HM.out; omega)
        have hz : (j : Int) < m := by omega
        obtain ⟨y, hy⟩ : ∃ y, f j = y := ⟨_, rfl⟩
        rw [hy] at c1 E
        clear hx hy hj
        go_wp2_with fail
        go_roundw
        case rel => exact ⟨j, by have := HM.out; omega, by go_num, by rw [E.out], by first | rfl | trivial⟩
        case measure => simp [intOf]; omega
      · have hkn : k = n := by have := HM.out; omega
        subst hkn
        clear hx hj
        go_wp2_with fail
        go_ret
        exact ⟨by rw [HX.out]; exact rfl, Below.refl _ _⟩
  exact z _ rfl
/-- Every scale can be. -/
def scOk (n : Nat) (f : Nat → Int) : Prop := 1 ≤ n ∧ n ≤ 16 ∧ ∀ j, j < n → 1 ≤ f j ∧ f j ≤ 16777216
/-- What New says. -/
def NewP (W : World) (n : Nat) (f : Nat → Int) (e : Ending) (w' : World) : Prop :=
  (∃ c : Int, c ≠ 0 ∧ ¬ scOk n f ∧ e = .returned (.tuple #[.pointer none, .int .i64 c]) ∧ Below W.heap.size W w') ∨
  (scOk n f ∧ ∃ g b cap, e = .returned (.tuple #[.pointer (some ⟨g, 0, none⟩), .int .i64 0]) ∧ W.heap.size ≤ g ∧ W.heap.size ≤ b ∧ Ck w' g b cap n f (fun _ => 0) ∧ Below W.heap.size W w')
theorem new_none (v : Value) (f : Nat → Int) (w : World) (S : Sees w .i64 v 0 f) : Calls Try.prog 9 #[v] w (NewP w 0 f) := by
  obtain ⟨ao, c, rfl, hs⟩ := S
  clear hs
  go_enter Try.func9, Try.ntmps9
  go_wp2_with fail
  go_ret2
  exact Or.inl ⟨2, by decide, fun h => absurd h.1 (by omega), rfl, Below.refl _ _⟩
set_option maxHeartbeats 1000000 in
theorem new_long (v : Value) (n : Nat) (f : Nat → Int) (w : World) (S : Sees w .i64 v n f) (h : 16 < n) : Calls Try.prog 9 #[v] w (NewP w n f) := by
  obtain ⟨ao, c, rfl, hs⟩ := S
  have q0 : ((n : Int) == 0) = false := by rw [beq_eq_false_iff_ne]; omega
  have q1 : decide (16 < (n : Int)) = true := decide_eq_true (by omega)
  have HH := Lib.hid h
  clear hs h
  go_enter Try.func9, Try.ntmps9
  go_wp2_with fail
  go_ret2
  exact Or.inl ⟨4, by decide, fun k => absurd k.2.1 (by have := HH.out; omega), rfl, Below.refl _ _⟩
set_option maxHeartbeats 1000000 in
theorem new_bad (v : Value) (n : Nat) (f : Nat → Int) (w : World) (S : Sees w .i64 v (n + 1) f) (h : n < 16) (hb : ¬ scOk (n + 1) f) : Calls Try.prog 9 #[v] w (NewP w (n + 1) f) := by
  have MI := Lib.hid (fun w' S' => min_any v n f w' S' (by omega))
  have MA := Lib.hid (fun w' S' => max_any v n f w' S' (by omega))
  have SS := Lib.hid S
  obtain ⟨ao, c, rfl, hs⟩ := S
  have HB := Lib.hid hb
  have CS : Hid (minF f n < 1 ∨ 16777216 < maxF f n) := Lib.hid (by
    by_cases h1 : minF f n < 1
    · exact Or.inl h1
    by_cases h2 : 16777216 < maxF f n
    · exact Or.inr h2
    · refine absurd ⟨by omega, by omega, fun j hj => ?_⟩ hb
      have a := minF_le f n j (by omega)
      have b := le_maxF f n j (by omega)
      omega)
  obtain ⟨x, hx⟩ : ∃ x, minF f n = x := ⟨_, rfl⟩
  obtain ⟨y, hy⟩ : ∃ y, maxF f n = y := ⟨_, rfl⟩
  rw [hx] at MI CS
  rw [hy] at MA CS
  obtain ⟨m, hm⟩ : ∃ m, m = n + 1 := ⟨_, rfl⟩
  rw [← hm] at MI MA SS HB ⊢
  have q0 : ((m : Int) == 0) = false := by rw [beq_eq_false_iff_ne]; omega
  have q1 : decide (16 < (m : Int)) = false := decide_eq_false (by omega)
  clear hs hb h hx hy hm
  by_cases c1 : x < 1
  · have q2 : decide (x < 1) = true := decide_eq_true c1
    clear CS
    go_enter Try.func9, Try.ntmps9
    go_wp2_with fail
    refine (MI.out _ SS.out).mono ?_
    rintro e w1 ⟨rfl, b1⟩
    have B1 := Lib.hid b1
    clear b1
    go_wp2_with fail
    go_ret2
    exact Or.inl ⟨2, by decide, HB.out, rfl, B1.out⟩
  · have c2 : 16777216 < y := CS.out.resolve_left c1
    have q2 : decide (x < 1) = false := decide_eq_false c1
    have q3 : decide (16777216 < y) = true := decide_eq_true c2
    clear CS
    go_enter Try.func9, Try.ntmps9
    go_wp2_with fail
    refine (MI.out _ SS.out).mono ?_
    rintro e w1 ⟨rfl, b1⟩
    have B1 := Lib.hid b1
    have S1 := Lib.hid (SS.out.kept b1)
    clear b1
    go_wp2_with fail
    refine (MA.out _ S1.out).mono ?_
    rintro e w2 ⟨rfl, b2⟩
    have B2 := Lib.hid (B1.out.trans (b2.mono B1.out.size))
    clear b2
    go_wp2_with fail
    go_ret2
    exact Or.inl ⟨4, by decide, HB.out, rfl, B2.out⟩
theorem infoTh : (Try.prog.info? 61).map (fun i => (i.zero, i.size, i.bytes)) = some (some (.agg #[.int .i64 0, .int .i64 0]), 2, 16) := by kernel_rfl
/-- The cells of k threads that have just been made. -/
def newRow (f : Nat → Int) (k : Nat) : List Value := (List.range (2 * k)).map fun j => .int .i64 (rowC f (fun _ => 0) j)
theorem newRow_succ (f : Nat → Int) (k : Nat) : newRow f (k + 1) = newRow f k ++ [.int .i64 (f k), .int .i64 0] := by
  unfold newRow
  rw [show 2 * (k + 1) = 2 * k + 1 + 1 by omega, List.range_succ, List.range_succ, List.map_append, List.map_append, List.append_assoc]
  congr 1
  have a := rowC_s f (fun _ => 0) k
  have b := rowC_t f (fun _ => 0) k
  rw [Nat.mul_comm] at a b
  simp [a, b]
theorem cell_two_new' (w : World) (x y : Value) (t : TypeId) : ∀ j u, [x, y][j]? = some u → (w.alloc (.cells #[x, y] t)).cell? ((⟨w.heap.size, 0, none⟩ : Addr).add j) = some u := by
  intro j u h
  match j, h with
  | 0, h => simp at h; subst h; simp [Addr.add, go_sem]
  | 1, h => simp at h; subst h; simp [Addr.add, go_sem]
  | j + 2, h => simp at h
theorem ownsSet {w : World} {base n z : Nat} {e : TypeId} {v : Value} {xs : List Value} (h : w.ownsRow base e z v n xs) {p : Addr} (hp : p.block < base) (u : Value) : (w.setCell p u).ownsRow base e z v n xs := by
  obtain ⟨h1, h2 | ⟨g', cap, cur, e, h3, h4, r⟩⟩ := h
  · exact ⟨h1, Or.inl h2⟩
  · exact ⟨h1, Or.inr ⟨g', cap, cur, e, h3, (Below.heap_setCell _ _ _ _ (by omega)).trans h4, r⟩⟩
theorem arr_owned2 {w : World} {base n : Nat} {E : TypeId} {v : Value} {f : Nat → Int} (hn : 1 ≤ n) (h : w.ownsRow base E 2 v n (newRow f n)) : ∃ g cap, v = .slice (some ⟨g, 0, none⟩) n cap ∧ base ≤ g ∧ Arr w .i64 E g (2 * n) (rowC f (fun _ => 0)) := by
  obtain ⟨h1, h2 | ⟨g', cap, cur, e, hg, hh, hn2, hm, hs, ht⟩⟩ := h
  · obtain ⟨_, h2⟩ := h2
    omega
  · refine ⟨g', cap, e, hg, cur, hh, by omega, fun j hj => ?_⟩
    have : cur.toList[j]? = (cur.toList.take (n * 2))[j]? := by rw [List.getElem?_take, if_pos (by omega)]
    rw [← Array.getElem?_toList, this, ht]
    simp [newRow, hj]
theorem own_form {w : World} {base n z : Nat} {e : TypeId} {v : Value} {xs : List Value} (h : w.ownsRow base e z v n xs) : ∃ ao c, v = .slice ao n c := by
  obtain ⟨h1, h2 | ⟨g', cap, cur, e, h3, _⟩⟩ := h
  · obtain ⟨h2, rfl⟩ := h2; exact ⟨_, _, h2⟩
  · exact ⟨_, _, e⟩
theorem own_base2 {w : World} {base n z : Nat} {e : TypeId} {v : Value} {xs : List Value} (h : w.ownsRow base e z v n xs) {g : Nat} (hg : v.ownBlock = some g) : base ≤ g := by
  obtain ⟨h1, h2 | ⟨g', cap, cur, e, h3, _⟩⟩ := h
  · obtain ⟨h2, _⟩ := h2; subst h2; simp [Value.ownBlock] at hg
  · subst e; simp [Value.ownBlock] at hg; omega
theorem ownsRow_nil' (w : World) (base : Nat) (e : TypeId) (z : Nat) : w.ownsRow base e z (.slice none 0 0) 0 [] := ⟨by simp, Or.inl ⟨rfl, rfl⟩⟩
set_option maxHeartbeats 4000000 in
theorem new_good (v : Value) (n : Nat) (f : Nat → Int) (w : World) (S : Sees w .i64 v (n + 1) f) (hb : scOk (n + 1) f) : Calls Try.prog 9 #[v] w (NewP w (n + 1) f) := by
  have h := hb.2.1
  obtain ⟨i0, hi, hz0, hz1, hz2⟩ := info_parts infoTh
  have MI := Lib.hid (fun w' S' => min_any v n f w' S' (by omega))
  have MA := Lib.hid (fun w' S' => max_any v n f w' S' (by omega))
  have SS := Lib.hid S
  obtain ⟨ao, c, rfl, hs⟩ := S
  obtain ⟨bs, off, rfl, hc⟩ := hs.resolve_left (by omega)
  have HC := Lib.hid hc
  have HB := Lib.hid hb
  have c1 : ¬ minF f n < 1 := by obtain ⟨j, hj, e⟩ := minF_at f n; have := hb.2.2 j (by omega); omega
  have c2 : ¬ 16777216 < maxF f n := by obtain ⟨j, hj, e⟩ := maxF_at f n; have := hb.2.2 j (by omega); omega
  obtain ⟨x, hx⟩ : ∃ x, minF f n = x := ⟨_, rfl⟩
  obtain ⟨y, hy⟩ : ∃ y, maxF f n = y := ⟨_, rfl⟩
  rw [hx] at MI c1
  rw [hy] at MA c2
  obtain ⟨m, hm⟩ : ∃ m, m = n + 1 := ⟨_, rfl⟩
  rw [← hm] at MI MA SS HB HC h ⊢
  have q0 : ((m : Int) == 0) = false := by rw [beq_eq_false_iff_ne]; omega
  have q1 : decide (16 < (m : Int)) = false := decide_eq_false (by omega)
  have q2 : decide (x < 1) = false := decide_eq_false c1
  have q3 : decide (16777216 < y) = false := decide_eq_false c2
  clear hs hb hx hy hm hc c1 c2
  go_enter Try.func9, Try.ntmps9
  go_wp2_with fail
  refine (MI.out _ SS.out).mono ?_
  rintro e w1 ⟨rfl, b1⟩
  have B1 := Lib.hid b1
  have S1 := Lib.hid (SS.out.kept b1)
  clear b1
  go_wp2_with fail
  refine (MA.out _ S1.out).mono ?_
  rintro e w2 ⟨rfl, b2⟩
  have B2 := Lib.hid (B1.out.trans (b2.mono B1.out.size))
  clear b2 B1 S1 MI MA
  go_wp2_with fail
  obtain ⟨W3, hW⟩ : ∃ W3, W3 = w2.alloc (.cells #[.slice none 0 0] 59) := ⟨_, rfl⟩
  obtain ⟨g, hg⟩ : ∃ g, g = w2.heap.size := ⟨_, rfl⟩
  have x3 : W3.cell? ⟨g, 0, none⟩ = some (.slice none 0 0) := by rw [hW, hg]; simp [go_sem]
  have y3 : W3.frozen? ⟨g, 0, none⟩ = false := by rw [hW, hg]; simp [go_sem]
  have B3 : Hid (Below w.heap.size w W3) := Lib.hid (by rw [hW]; exact belowA B2.out _)
  have hs3 : W3.heap.size = g + 1 := by rw [hW, hg]; simp
  have hgw : w.heap.size ≤ g := by rw [hg]; exact B2.out.size
  rw [← hW, ← hg]
  have HG := Lib.hid hgw
  clear hW hg B2 hgw
  go_loopw [6, 27] (fun _ i wr => ∃ (k : Nat) (s : Value), k ≤ m ∧ i = .int .i64 k ∧ wr.cell? ⟨g, 0, none⟩ = some s ∧ wr.frozen? ⟨g, 0, none⟩ = false ∧ wr.ownsRow (g + 1) 61 2 s k (newRow f k) ∧ Below w.heap.size w wr ∧ g + 1 ≤ wr.heap.size) (fun _ i _ => m - (intOf i).toNat)
  case atStart => exact ⟨0, _, by omega, rfl, x3, y3, ownsRow_nil' _ _ _ _, B3.out, by omega⟩
  case round =>
    obtain ⟨k, s, hk, rfl, hs, hf, own, hb, hz⟩ := hrel
    have OWN := Lib.hid own
    have HB3 := Lib.hid hb
    clear x3 y3 hs3 B3
    by_cases hlt : k < m
    · have c1 : wr.cell? ⟨bs, off + k, none⟩ = some (.int .i64 (f k)) := keepC hb (HC.out k hlt)
      have hkm : (k : Int) < m := by omega
      have NR := Lib.hid (newRow_succ f k)
      obtain ⟨x, hx⟩ : ∃ x, f k = x := ⟨_, rfl⟩
      rw [hx] at c1 NR
      clear hx hb
      have own' := ownsKept own (belowA (Below.refl wr.heap.size wr) (.cells #[.int .i64 x, .int .i64 0] 61))
      have G0 : Hid (∀ v1 w4, w4.ownsRow (g + 1) 61 2 v1 (k + 1) (newRow f k ++ [.int .i64 x, .int .i64 0]) → (wr.alloc (.cells #[.int .i64 x, .int .i64 0] 61)).grownBy w4 s.ownBlock →
          w4.cell? ⟨g, 0, none⟩ = some s ∧ w4.frozen? ⟨g, 0, none⟩ = false ∧ Below w.heap.size w w4 ∧ g + 1 ≤ w4.heap.size) := Lib.hid (by
        intro v1 w4 a1 a2
        obtain ⟨W4, hW4⟩ : ∃ W4, wr.alloc (.cells #[.int .i64 x, .int .i64 0] 61) = W4 := ⟨_, rfl⟩
        rw [hW4] at a2
        have e4 : W4.heap.size = wr.heap.size + 1 := by rw [← hW4]; simp
        have b4 : Below (g + 1) W4 w4 := (Below.refl _ _).grown a2 (by omega) (fun j e => own_base2 own e)
        have cg : W4.cell? ⟨g, 0, none⟩ = some s := by rw [← hW4]; exact keepAlloc hs _
        have cf : W4.frozen? ⟨g, 0, none⟩ = false := by rw [← hW4, frozen?_alloc_cells]; exact hf
        have bw : Below w.heap.size w W4 := by rw [← hW4]; exact belowA HB3.out _
        have := HG.out
        exact ⟨by rw [← cg]; exact b4.cell (p := ⟨g, 0, none⟩) (by show g < g + 1; omega), (b4.frozen (p := ⟨g, 0, none⟩) (by show g < g + 1; omega)).trans cf, bw.trans (b4.mono (by omega)), by have := b4.size; omega⟩)
      go_wp2_with (first
        | (at_builtin; go_must (refine wpList_append_own_at _ rfl _ _ 57 rfl (g + 1) 61 i0 (.agg #[.int .i64 0, .int .i64 0]) 2 16 Try.underlying57 hi hz0 hz1 hz2 rfl (by decide) _ k _ rfl own' ⟨wr.heap.size, 0, none⟩ 1 1 [.int .i64 x, .int .i64 0] rfl rfl (cell_two_new' _ _ _ _) (by intro u hu; simp at hu; rcases hu with rfl | rfl <;> rfl) (by unfold maxLen; omega) (by omega) (by simp; omega) ?_); intro v1 w4 own1 hg1 hnil1 hat1; have ff := own_form own1; obtain ⟨av, cv, rfl⟩ := ff; obtain ⟨z0, z1, z2, z3⟩ := G0.out _ w4 own1 hg1; have ZB := Lib.hid z2; have OW := Lib.hid own1; clear own1 hg1 hnil1 hat1 z2 G0 own own'))
      have own5 := ownsSet (p := ⟨g, 0, none⟩) OW.out (by show g < g + 1; omega) (.slice av (k + 1) cv)
      rw [← NR.out] at own5
      have O5 := Lib.hid own5
      have B5 := Lib.hid (belowS ZB.out (p := ⟨g, 0, none⟩) HG.out (.slice av (k + 1) cv))
      clear own5
      go_roundw
      case rel => exact ⟨k + 1, _, by omega, by go_num, World.cell?_setCell_same' _ _ _ (by rw [z0]; rfl), by rw [World.frozen?_setCell]; exact z1, O5.out, B5.out, by simpa [World.setCell] using z3⟩
      case measure => simp [intOf]; omega
    · have hkm : k = m := by omega
      subst hkm
      have K1 := HB.out.1
      obtain ⟨bb, cap, rfl, hbb, AR⟩ := arr_owned2 (by omega) own
      have CK : Hid (Ck wr g bb cap k f (fun _ => 0)) := Lib.hid ⟨hs, by omega, AR⟩
      have := HG.out
      have HBB := Lib.hid (show w.heap.size ≤ bb by omega)
      clear AR own hb hs
      go_wp2_with fail
      go_ret2
      exact Or.inr ⟨HB.out, g, bb, cap, rfl, HG.out, HBB.out, CK.out, HB3.out⟩
theorem new_any (v : Value) (n : Nat) (f : Nat → Int) (w : World) (S : Sees w .i64 v n f) : Calls Try.prog 9 #[v] w (NewP w n f) := by
  cases n with
  | zero => exact new_none v f w S
  | succ n =>
    by_cases h : 16 < n + 1
    · exact new_long v _ f w S h
    · by_cases hb : scOk (n + 1) f
      · exact new_good v n f w S hb
      · exact new_bad v n f w S (by omega) hb
end Go.Proofs.Ytfigepnpegnhkaa
