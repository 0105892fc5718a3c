/- The contracts of cart.Place and of the document's Place. -/
import Derived.Test.YtbfpacngphjkcaaChecked
import Derived.Test.YtbfpacngphjkcaaShelf
import Derived.Test.YtbfpacngphjkcaaKit
import Derived.Test.YtbfpacngphjkcaaPlace
namespace Go.Proofs.Ytbfpacngphjkcaa
open Go.RowKit
set_option linter.unusedVariables false

theorem len_at (x L : Int) (w : World) (h0 : 0 ≤ x) (h : x ≤ 9223372036854775807) (k : Hid ((Lib.bitLen x.toNat : Int) = L)) :
    Calls Try.prog 31 #[.int .u64 x] w fun e w' => e = .returned (.int .i64 L) ∧ w = w' :=
  (Try.bits_Len x w h0 (by omega)).mono fun e w' ⟨a, b⟩ => ⟨by rw [a, k.out], b.symm⟩

/-- Two powers of two of a size, as the walk wants them. -/
theorem powers (s : Nat) (h1 : 1 ≤ s) (h2 : s ≤ 8388608) : ∃ L K U D : Nat, Lib.bitLen (s - 1) = L ∧ Lib.bitLen s = K + 1 ∧ L ≤ 62 ∧ K ≤ 62 ∧ wrap64 ((2 : Int) ^ L) = (U : Int) ∧ wrap64 ((2 : Int) ^ K) = (D : Int) ∧ up s = U ∧ down s = D ∧ 1 ≤ U ∧ U ≤ 16777216 ∧ s ≤ U ∧ 1 ≤ D ∧ D ≤ s := by
  have a1 := le_up h1 (by omega)
  have a2 : up s ≤ 16777216 := by
    by_cases c : 2 ≤ s
    · have := up_lt c (by omega); omega
    · have : s = 1 := by omega
      subst this
      decide
  have a3 := down_le h1 (by omega)
  have a4 := down_pos s
  obtain ⟨_, b2, b3⟩ := bitLenAux_spec 64 s (by omega)
  have b4 := (b2 (by omega)).1
  have hL : Lib.bitLen (s - 1) ≤ 62 := by
    rcases Nat.lt_or_ge 62 (Lib.bitLen (s - 1)) with k | k
    · have : 2 ^ 25 ≤ 2 ^ Lib.bitLen (s - 1) := Nat.pow_le_pow_right (by omega) (by omega)
      have : 2 ^ Lib.bitLen (s - 1) ≤ 16777216 := a2
      omega
    · exact k
  have hK : Lib.bitLen s - 1 ≤ 62 := by
    rcases Nat.lt_or_ge 62 (Lib.bitLen s - 1) with k | k
    · have : 2 ^ 25 ≤ 2 ^ (Lib.bitLen s - 1) := Nat.pow_le_pow_right (by omega) (by omega)
      have : 2 ^ (Lib.bitLen s - 1) ≤ s := a3
      omega
    · exact k
  have w1 : ∀ k n : Nat, 2 ^ k = n → n ≤ 16777216 → wrap64 ((2 : Int) ^ k) = (n : Int) := fun k n e h => by
    have : ((2 : Int) ^ k) = (n : Int) := by rw [← e]; simp
    rw [this]
    exact IntWalk.wrap64_in _ (by omega)
  refine ⟨Lib.bitLen (s - 1), Lib.bitLen s - 1, up s, down s, rfl, ?_, hL, hK, w1 _ _ rfl a2, w1 _ _ rfl (by omega), rfl, rfl, up_pos s, a2, a1, a4, a3⟩
  have : Lib.bitLen s = Lib.bitLenAux 64 s := rfl
  omega

set_option maxHeartbeats 1000000 in
theorem place_any (a s : Nat) (w : World) (h1 : 1 ≤ s) (h2 : s ≤ 8388608) (ha : a ≤ 1073741824) :
    Calls Try.prog 26 #[.int .i64 a, .int .i64 s] w fun e w' => e = .returned (.int .i64 (place a s)) ∧ w = w' := by
  go_enter Try.func26, Try.ntmps26
  go_wp2
  go_loop [0, 1, 5] (fun x y z => ∃ a' s' b : Nat, x = .int .i64 a' ∧ y = .int .i64 s' ∧ z = .int .i64 b ∧ 1 ≤ s' ∧ s' ≤ 8388608 ∧ a' ≤ 1073741824 ∧ b + s' ≤ 8388608 ∧ b + place a' s' = place a s) (fun _ y _ => (intOf y).toNat)
  case atStart => exact ⟨a, s, 0, rfl, rfl, rfl, h1, h2, ha, by omega, by omega⟩
  case round =>
    obtain ⟨a', s', b, rfl, rfl, rfl, g1, g2, g3, g4, g5⟩ := hrel
    have G5 := Lib.hid g5
    clear g5 h1 h2 ha
    by_cases c : a' < s'
    · go_wp2
      go_ret
      exact ⟨by rw [← G5.out, place_in c]; simp, rfl⟩
    · obtain ⟨L, K, U, D, e1, e2, l1, l2, w1, w2, e3, e4, u1, u2, u3, d1, d2⟩ := powers s' g1 g2
      have hm := Nat.mod_lt a' u1
      have E1 := Lib.hid e1
      have E2 := Lib.hid e2
      have E3 := Lib.hid e3
      have E4 := Lib.hid e4
      clear e1 e2 e3 e4
      have cge : s' ≤ a' := by omega
      obtain ⟨r, hr⟩ : ∃ r : Nat, a' % U = r := ⟨_, rfl⟩
      have hrI : ((a' : Int) % (U : Int)) = (r : Int) := by rw [← hr]; simp
      rw [hr] at hm
      have HR := Lib.hid hr
      clear hr
      have P0 : a' % up s' = r := by rw [E3.out]; exact HR.out
      have P1 : r < s' → place a' s' = r := fun d => by rw [place_mod c g1 (by rw [P0]; exact d), P0]
      have P2 : ¬ r < s' → place a' s' = D + place (r - D) (s' - D) := fun d => by
        rw [place_rest c g1 (by omega) (by rw [P0]; exact d), P0, E4.out]
      have P3 : ¬ r < s' → D < s' := fun d => by
        rw [← E4.out]; exact down_lt g1 (by omega) (by rw [E3.out]; omega)
      have Q1 := Lib.hid P1
      have Q2 := Lib.hid P2
      have L1 : Hid ((Lib.bitLen ((s' : Int) - 1).toNat : Int) = (L : Int)) := Lib.hid (by rw [show ((s' : Int) - 1).toNat = s' - 1 by omega, E1.out])
      have L2 : Hid ((Lib.bitLen ((s' : Int)).toNat : Int) = (K : Int) + 1) := Lib.hid (by rw [Int.toNat_natCast, E2.out]; omega)
      clear P0 P1 P2 c
      by_cases d : r < s'
      · clear P3
        go_wp2_with fail
        refine (len_at _ (L : Int) _ (by omega) (by omega) L1).mono ?_
        rintro e w' ⟨rfl, rfl⟩
        go_wp2
        go_ret
        exact ⟨by rw [← G5.out, Q1.out d]; simp, rfl⟩
      · have d3 := P3 d
        have dge : s' ≤ r := by omega
        have Q3 := Lib.hid (Q2.out d)
        clear P3 Q1 Q2
        go_wp2_with fail
        refine (len_at _ (L : Int) _ (by omega) (by omega) L1).mono ?_
        rintro e w' ⟨rfl, rfl⟩
        go_wp2_with fail
        refine (len_at _ ((K : Int) + 1) _ (by omega) (by omega) L2).mono ?_
        rintro e w' ⟨rfl, rfl⟩
        go_wp2
        go_round
        case rel => exact ⟨r - D, s' - D, b + D, by congr 1; omega, by congr 1; omega, by congr 1, by omega, by omega, by omega, by omega, by rw [← G5.out, Q3.out]; omega⟩
        case measure => simp [intOf]; omega

/-- One power on. -/
theorem pow_step {k L s : Nat} (h : 2 ^ k < s) (hs : s ≤ 2 ^ L) : k + 1 ≤ L := by
  rcases Nat.lt_or_ge k L with c | c
  · exact c
  · have : 2 ^ L ≤ 2 ^ k := Nat.pow_le_pow_right (by omega) c
    omega
theorem pow_last {k L s : Nat} (h : s ≤ 2 ^ k) (hk : k ≤ L) (hu : 2 ^ L < 2 * s ∨ L = 0) : 2 ^ k = 2 ^ L := by
  rcases Nat.lt_or_ge k L with c | c
  · have : 2 ^ (k + 1) ≤ 2 ^ L := Nat.pow_le_pow_right (by omega) (by omega)
    rw [Nat.pow_succ] at this
    omega
  · rw [Nat.le_antisymm hk c]
theorem pow_down {j K s : Nat} (h : 2 * 2 ^ j ≤ s) (hs : s < 2 * 2 ^ K) : j + 1 ≤ K := by
  rcases Nat.lt_or_ge j K with c | c
  · exact c
  · have : 2 ^ K ≤ 2 ^ j := Nat.pow_le_pow_right (by omega) c
    omega
theorem pow_end {j K s : Nat} (h : s < 2 * 2 ^ j) (hk : j ≤ K) (hs : 2 ^ K ≤ s) : 2 ^ j = 2 ^ K := by
  rcases Nat.lt_or_ge j K with c | c
  · have : 2 ^ (j + 1) ≤ 2 ^ K := Nat.pow_le_pow_right (by omega) (by omega)
    rw [Nat.pow_succ] at this
    omega
  · rw [Nat.le_antisymm hk c]
/-- A power of two up to another. -/
def PowTo (W L : Nat) : Prop := ∃ k, W = 2 ^ k ∧ k ≤ L

set_option maxRecDepth 100000 in
set_option maxHeartbeats 1000000 in
theorem rplace_any (n : Nat) : ∀ (a s : Nat) (w : World), s ≤ n → 1 ≤ s → s ≤ 8388608 → a ≤ 1073741824 →
    Calls Try.prog 27 #[.int .i64 a, .int .i64 s] w fun e w' => e = .returned (.int .i64 (place a s)) ∧ w = w' := by
  induction n with
  | zero => intro a s w h h1; omega
  | succ n ih =>
    intro a s w hn h1 h2 ha
    by_cases c : a < s
    · go_enter Try.func27, Try.ntmps27
      go_wp2_with fail
      go_ret
      exact ⟨by rw [place_in c]; rfl, rfl⟩
    · obtain ⟨L, K, U, D, e1, e2, l1, l2, w1, w2, e3, e4, u1, u2, u3, d1, d2⟩ := powers s h1 h2
      have hm := Nat.mod_lt a u1
      obtain ⟨r, hr⟩ : ∃ r : Nat, a % U = r := ⟨_, rfl⟩
      have P0 : a % up s = r := by rw [e3]; exact hr
      have P1 : r < s → place a s = r := fun d => by rw [place_mod c h1 (by rw [P0]; exact d), P0]
      have P2 : ¬ r < s → place a s = D + place (r - D) (s - D) := fun d => by
        rw [place_rest c h1 (by omega) (by rw [P0]; exact d), P0, e4]
      rw [hr] at hm
      have P3 : ¬ r < s → D < s := fun d => by
        rw [← e4]; exact down_lt h1 (by omega) (by rw [e3]; omega)
      have f1 : 2 ^ L = U := by rw [← e3, ← e1]; rfl
      have f2 : 2 ^ K = D := by rw [← e4]; unfold down; rw [e2]; rfl
      have f3 : s < 2 * D := by rw [← e4]; exact lt_down h1 (by omega)
      have f4 : U < 2 * s ∨ L = 0 := by
        by_cases k : 2 ≤ s
        · exact Or.inl (by rw [← e3]; exact up_lt k (by omega))
        · have : s = 1 := by omega
          subst this
          exact Or.inr (by rw [← e1]; rfl)
      have hrI : ((a : Int) % (U : Int)) = (r : Int) := by rw [← hr]; simp
      have Q1 := Lib.hid P1
      have Q2 := Lib.hid P2
      have Q3 := Lib.hid P3
      have F1 := Lib.hid f1
      have F2 := Lib.hid f2
      have F4 := Lib.hid f4
      have IH := Lib.hid ih
      have hge : s ≤ a := by omega
      clear c e1 e2 e3 e4 w1 w2 l1 l2 hr P0 P1 P2 P3 f1 f2 f4 ih
      go_enter Try.func27, Try.ntmps27
      go_wp2_with fail
      go_loop [5] (fun v => ∃ W : Nat, 1 ≤ W ∧ W ≤ U ∧ PowTo W L ∧ v = .int .i64 W) (fun v => U - (intOf v).toNat)
      case atStart => exact ⟨1, by omega, by omega, ⟨0, rfl, by omega⟩, rfl⟩
      case round =>
        obtain ⟨W, g1, g2, g3, rfl⟩ := hrel
        have G3 := Lib.hid g3
        clear g3
        by_cases cw : W < s
        · have nx : PowTo (2 * W) L ∧ 2 * W ≤ U := by
            obtain ⟨k, rfl, hk⟩ := G3.out
            have := pow_step (L := L) cw (by rw [F1.out]; exact u3)
            refine ⟨⟨k + 1, by rw [Nat.pow_succ]; omega, this⟩, ?_⟩
            rw [← F1.out]
            have : 2 ^ (k + 1) ≤ 2 ^ L := Nat.pow_le_pow_right (by omega) this
            rw [Nat.pow_succ] at this
            omega
          have NX := Lib.hid nx
          clear nx
          have hb : decide ((W : Int) < 4611686018427387904) = true := decide_eq_true (by omega)
          go_wp2_with fail
          go_round
          case rel => exact ⟨2 * W, by omega, NX.out.2, NX.out.1, by go_num⟩
          case measure => have := NX.out.2; simp [intOf]; omega
        · have hW : W = U := by
            obtain ⟨k, rfl, hk⟩ := G3.out
            rw [← F1.out]
            exact pow_last (s := s) (by omega) hk (by rw [F1.out]; exact F4.out)
          subst hW
          by_cases d : r < s
          · go_wp2_with fail
            go_ret
            exact ⟨by rw [Q1.out d]; rfl, rfl⟩
          · have d3 := Q3.out d
            have dge : s ≤ r := by omega
            have Q4 := Lib.hid (Q2.out d)
            clear Q1 Q2 Q3 cw g1 g2
            go_wp2_with fail
            go_loop [7] (fun v => ∃ Q : Nat, 1 ≤ Q ∧ Q ≤ D ∧ PowTo Q K ∧ v = .int .i64 Q) (fun v => D - (intOf v).toNat)
            case atStart => exact ⟨1, by omega, by omega, ⟨0, rfl, by omega⟩, rfl⟩
            case round =>
              obtain ⟨Q, g1, g2, g3, rfl⟩ := hrel
              have G3 := Lib.hid g3
              clear g3
              by_cases cq : Q ≤ s / 2
              · have nx : PowTo (2 * Q) K ∧ 2 * Q ≤ D := by
                  obtain ⟨k, rfl, hk⟩ := G3.out
                  have := pow_down (s := s) (K := K) (j := k) (by omega) (by rw [F2.out]; exact f3)
                  refine ⟨⟨k + 1, by rw [Nat.pow_succ]; omega, this⟩, ?_⟩
                  rw [← F2.out]
                  have : 2 ^ (k + 1) ≤ 2 ^ K := Nat.pow_le_pow_right (by omega) this
                  rw [Nat.pow_succ] at this
                  omega
                have NX := Lib.hid nx
                clear nx
                go_wp2_with fail
                go_round
                case rel => exact ⟨2 * Q, by omega, NX.out.2, NX.out.1, by go_num⟩
                case measure => have := NX.out.2; simp [intOf]; omega
              · have hQ : Q = D := by
                  obtain ⟨k, rfl, hk⟩ := G3.out
                  rw [← F2.out]
                  exact pow_end (s := s) (by omega) hk (by rw [F2.out]; exact d2)
                subst hQ
                go_wp2_with fail
                have k := IH.out (r - Q) (s - Q) w (by omega) (by omega) (by omega) (by omega)
                rw [show ((r - Q : Nat) : Int) = (r : Int) - Q by omega, show ((s - Q : Nat) : Int) = (s : Int) - Q by omega] at k
                have hp := place_lt _ (r - Q) (s - Q) (Nat.le_refl _) (by omega) (by omega)
                refine k.mono ?_
                rintro e w' ⟨rfl, rfl⟩
                go_wp2_with fail
                go_ret
                exact ⟨by rw [Q4.out]; exact congrArg (fun z => Ending.returned (.int .i64 z)) (Int.natCast_add _ _).symm, rfl⟩
end Go.Proofs.Ytbfpacngphjkcaa
