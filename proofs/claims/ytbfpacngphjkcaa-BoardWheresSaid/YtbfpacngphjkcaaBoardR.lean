/- The document's Decode answers 'spot'. -/
import Derived.Test.YtbfpacngphjkcaaBoardB
namespace Go.Proofs.Ytbfpacngphjkcaa
open Go.RowKit
set_option linter.unusedVariables false
set_option linter.unusedSimpArgs false

theorem rplace_int (x : Int) (s : Nat) (w : World) (h0 : 0 ≤ x) (h1 : x ≤ 1073741824) (s1 : 1 ≤ s) (s2 : s ≤ 8388608) :
    Calls Try.prog 27 #[.int .i64 x, .int .i64 s] w fun e w' => e = .returned (.int .i64 (place x.toNat s)) ∧ w = w' := by
  have k := rplace_any s x.toNat s w (Nat.le_refl _) s1 s2 (by omega)
  rwa [Int.toNat_of_nonneg h0] at k

set_option maxRecDepth 100000 in
set_option maxHeartbeats 1000000 in
theorem rd_L1_0 (x b p lay : Int) (n r : Nat) (w : World) (x0 : 0 ≤ x) (x1 : x ≤ 4294967295) (e1 : x / 65536 % 256 = b) (e2 : x % 65536 = p) (n1 : (b == 126) = false) (n2 : (b == 127) = false) (b0 : 0 ≤ b) (b1 : b ≤ 255) (p0 : 0 ≤ p) (p1 : p ≤ 65535) (s1 : 1 ≤ n) (s2 : n ≤ 8388608) (r1 : r ≤ 524288) (h0 : (lay == 1) = true) (h1 : 112 ≤ b) (h2 : b ≤ 125) (h3 : p < 32768) (h4 : 0 < r) :
    Calls Try.prog 20 #[.int .u8 lay, .int .i64 n, .int .i64 r, .int .u32 x] w fun e w' => e = .returned (.agg #[.int .u8 2, .int .i64 ((b % 16 * 32768 + p) % r)]) ∧ Below w.heap.size w w' := by
  go_enter Try.func20, Try.ntmps20
  go_wp2_with (go_at_call 27; refine (rplace_int _ _ _ (by omega) (by omega) s1 s2).mono ?_; rintro e w' ⟨rfl, rfl⟩)
  exact bodyPost_ret (v := .agg #[.int .u8 2, .int .i64 ((b % 16 * 32768 + p) % r)]) (by simp [results, Try.results20, go_sem]) rfl ⟨rfl, by repeat (first | exact Below.refl _ _ | apply belowD | apply belowN | apply belowM | apply belowA)⟩

set_option maxRecDepth 100000 in
set_option maxHeartbeats 1000000 in
theorem rd_L1_1 (x b p lay : Int) (n r : Nat) (w : World) (x0 : 0 ≤ x) (x1 : x ≤ 4294967295) (e1 : x / 65536 % 256 = b) (e2 : x % 65536 = p) (n1 : (b == 126) = false) (n2 : (b == 127) = false) (b0 : 0 ≤ b) (b1 : b ≤ 255) (p0 : 0 ≤ p) (p1 : p ≤ 65535) (s1 : 1 ≤ n) (s2 : n ≤ 8388608) (r1 : r ≤ 524288) (h0 : (lay == 1) = true) (h1 : 112 ≤ b) (h2 : 125 < b) (h3 : 240 ≤ b) (h4 : p < 32768) (h5 : 0 < r) :
    Calls Try.prog 20 #[.int .u8 lay, .int .i64 n, .int .i64 r, .int .u32 x] w fun e w' => e = .returned (.agg #[.int .u8 2, .int .i64 ((b % 16 * 32768 + p) % r)]) ∧ Below w.heap.size w w' := by
  go_enter Try.func20, Try.ntmps20
  go_wp2_with (go_at_call 27; refine (rplace_int _ _ _ (by omega) (by omega) s1 s2).mono ?_; rintro e w' ⟨rfl, rfl⟩)
  exact bodyPost_ret (v := .agg #[.int .u8 2, .int .i64 ((b % 16 * 32768 + p) % r)]) (by simp [results, Try.results20, go_sem]) rfl ⟨rfl, by repeat (first | exact Below.refl _ _ | apply belowD | apply belowN | apply belowM | apply belowA)⟩

set_option maxRecDepth 100000 in
set_option maxHeartbeats 1000000 in
theorem rd_L2_0 (x b p lay : Int) (n r : Nat) (w : World) (x0 : 0 ≤ x) (x1 : x ≤ 4294967295) (e1 : x / 65536 % 256 = b) (e2 : x % 65536 = p) (n1 : (b == 126) = false) (n2 : (b == 127) = false) (b0 : 0 ≤ b) (b1 : b ≤ 255) (p0 : 0 ≤ p) (p1 : p ≤ 65535) (s1 : 1 ≤ n) (s2 : n ≤ 8388608) (r1 : r ≤ 524288) (h0 : (lay == 1) = true) (h1 : b < 112) (h2 : 32768 ≤ p) :
    Calls Try.prog 20 #[.int .u8 lay, .int .i64 n, .int .i64 r, .int .u32 x] w fun e w' => e = .returned (.agg #[.int .u8 1, .int .i64 (place (b % 128 * 32768 + p - 32768).toNat n)]) ∧ Below w.heap.size w w' := by
  go_enter Try.func20, Try.ntmps20
  go_wp2_with (go_at_call 27; refine (rplace_int _ _ _ (by omega) (by omega) s1 s2).mono ?_; rintro e w' ⟨rfl, rfl⟩)
  exact bodyPost_ret (v := .agg #[.int .u8 1, .int .i64 (place (b % 128 * 32768 + p - 32768).toNat n)]) (by simp [results, Try.results20, go_sem]) rfl ⟨rfl, by repeat (first | exact Below.refl _ _ | apply belowD | apply belowN | apply belowM | apply belowA)⟩

set_option maxRecDepth 100000 in
set_option maxHeartbeats 1000000 in
theorem rd_L2_1 (x b p lay : Int) (n r : Nat) (w : World) (x0 : 0 ≤ x) (x1 : x ≤ 4294967295) (e1 : x / 65536 % 256 = b) (e2 : x % 65536 = p) (n1 : (b == 126) = false) (n2 : (b == 127) = false) (b0 : 0 ≤ b) (b1 : b ≤ 255) (p0 : 0 ≤ p) (p1 : p ≤ 65535) (s1 : 1 ≤ n) (s2 : n ≤ 8388608) (r1 : r ≤ 524288) (h0 : (lay == 1) = true) (h1 : 112 ≤ b) (h2 : b ≤ 125) (h3 : 32768 ≤ p) :
    Calls Try.prog 20 #[.int .u8 lay, .int .i64 n, .int .i64 r, .int .u32 x] w fun e w' => e = .returned (.agg #[.int .u8 1, .int .i64 (place (b % 128 * 32768 + p - 32768).toNat n)]) ∧ Below w.heap.size w w' := by
  go_enter Try.func20, Try.ntmps20
  go_wp2_with (go_at_call 27; refine (rplace_int _ _ _ (by omega) (by omega) s1 s2).mono ?_; rintro e w' ⟨rfl, rfl⟩)
  exact bodyPost_ret (v := .agg #[.int .u8 1, .int .i64 (place (b % 128 * 32768 + p - 32768).toNat n)]) (by simp [results, Try.results20, go_sem]) rfl ⟨rfl, by repeat (first | exact Below.refl _ _ | apply belowD | apply belowN | apply belowM | apply belowA)⟩

set_option maxRecDepth 100000 in
set_option maxHeartbeats 1000000 in
theorem rd_L2_2 (x b p lay : Int) (n r : Nat) (w : World) (x0 : 0 ≤ x) (x1 : x ≤ 4294967295) (e1 : x / 65536 % 256 = b) (e2 : x % 65536 = p) (n1 : (b == 126) = false) (n2 : (b == 127) = false) (b0 : 0 ≤ b) (b1 : b ≤ 255) (p0 : 0 ≤ p) (p1 : p ≤ 65535) (s1 : 1 ≤ n) (s2 : n ≤ 8388608) (r1 : r ≤ 524288) (h0 : (lay == 1) = true) (h1 : 112 ≤ b) (h2 : 125 < b) (h3 : b < 240) (h4 : 32768 ≤ p) :
    Calls Try.prog 20 #[.int .u8 lay, .int .i64 n, .int .i64 r, .int .u32 x] w fun e w' => e = .returned (.agg #[.int .u8 1, .int .i64 (place (b % 128 * 32768 + p - 32768).toNat n)]) ∧ Below w.heap.size w w' := by
  go_enter Try.func20, Try.ntmps20
  go_wp2_with (go_at_call 27; refine (rplace_int _ _ _ (by omega) (by omega) s1 s2).mono ?_; rintro e w' ⟨rfl, rfl⟩)
  exact bodyPost_ret (v := .agg #[.int .u8 1, .int .i64 (place (b % 128 * 32768 + p - 32768).toNat n)]) (by simp [results, Try.results20, go_sem]) rfl ⟨rfl, by repeat (first | exact Below.refl _ _ | apply belowD | apply belowN | apply belowM | apply belowA)⟩

set_option maxRecDepth 100000 in
set_option maxHeartbeats 1000000 in
theorem rd_L2_3 (x b p lay : Int) (n r : Nat) (w : World) (x0 : 0 ≤ x) (x1 : x ≤ 4294967295) (e1 : x / 65536 % 256 = b) (e2 : x % 65536 = p) (n1 : (b == 126) = false) (n2 : (b == 127) = false) (b0 : 0 ≤ b) (b1 : b ≤ 255) (p0 : 0 ≤ p) (p1 : p ≤ 65535) (s1 : 1 ≤ n) (s2 : n ≤ 8388608) (r1 : r ≤ 524288) (h0 : (lay == 1) = true) (h1 : 112 ≤ b) (h2 : 125 < b) (h3 : 240 ≤ b) (h4 : 32768 ≤ p) :
    Calls Try.prog 20 #[.int .u8 lay, .int .i64 n, .int .i64 r, .int .u32 x] w fun e w' => e = .returned (.agg #[.int .u8 1, .int .i64 (place (b % 128 * 32768 + p - 32768).toNat n)]) ∧ Below w.heap.size w w' := by
  go_enter Try.func20, Try.ntmps20
  go_wp2_with (go_at_call 27; refine (rplace_int _ _ _ (by omega) (by omega) s1 s2).mono ?_; rintro e w' ⟨rfl, rfl⟩)
  exact bodyPost_ret (v := .agg #[.int .u8 1, .int .i64 (place (b % 128 * 32768 + p - 32768).toNat n)]) (by simp [results, Try.results20, go_sem]) rfl ⟨rfl, by repeat (first | exact Below.refl _ _ | apply belowD | apply belowN | apply belowM | apply belowA)⟩

set_option maxRecDepth 100000 in
set_option maxHeartbeats 1000000 in
theorem rd_L3_0 (x b p lay : Int) (n r : Nat) (w : World) (x0 : 0 ≤ x) (x1 : x ≤ 4294967295) (e1 : x / 65536 % 256 = b) (e2 : x % 65536 = p) (n1 : (b == 126) = false) (n2 : (b == 127) = false) (b0 : 0 ≤ b) (b1 : b ≤ 255) (p0 : 0 ≤ p) (p1 : p ≤ 65535) (s1 : 1 ≤ n) (s2 : n ≤ 8388608) (r1 : r ≤ 524288) (h0 : (lay == 1) = true) (h1 : b < 112) (h2 : p < 32768) :
    Calls Try.prog 20 #[.int .u8 lay, .int .i64 n, .int .i64 r, .int .u32 x] w fun e w' => e = .returned (.agg #[.int .u8 0, .int .i64 (0)]) ∧ Below w.heap.size w w' := by
  go_enter Try.func20, Try.ntmps20
  go_wp2_with (go_at_call 27; refine (rplace_int _ _ _ (by omega) (by omega) s1 s2).mono ?_; rintro e w' ⟨rfl, rfl⟩)
  exact bodyPost_ret (v := .agg #[.int .u8 0, .int .i64 (0)]) (by simp [results, Try.results20, go_sem]) rfl ⟨rfl, by repeat (first | exact Below.refl _ _ | apply belowD | apply belowN | apply belowM | apply belowA)⟩

set_option maxRecDepth 100000 in
set_option maxHeartbeats 1000000 in
theorem rd_L3_1 (x b p lay : Int) (n r : Nat) (w : World) (x0 : 0 ≤ x) (x1 : x ≤ 4294967295) (e1 : x / 65536 % 256 = b) (e2 : x % 65536 = p) (n1 : (b == 126) = false) (n2 : (b == 127) = false) (b0 : 0 ≤ b) (b1 : b ≤ 255) (p0 : 0 ≤ p) (p1 : p ≤ 65535) (s1 : 1 ≤ n) (s2 : n ≤ 8388608) (r1 : r ≤ 524288) (h0 : (lay == 1) = true) (h1 : 112 ≤ b) (h2 : 125 < b) (h3 : b < 240) (h4 : p < 32768) :
    Calls Try.prog 20 #[.int .u8 lay, .int .i64 n, .int .i64 r, .int .u32 x] w fun e w' => e = .returned (.agg #[.int .u8 0, .int .i64 (0)]) ∧ Below w.heap.size w w' := by
  go_enter Try.func20, Try.ntmps20
  go_wp2_with (go_at_call 27; refine (rplace_int _ _ _ (by omega) (by omega) s1 s2).mono ?_; rintro e w' ⟨rfl, rfl⟩)
  exact bodyPost_ret (v := .agg #[.int .u8 0, .int .i64 (0)]) (by simp [results, Try.results20, go_sem]) rfl ⟨rfl, by repeat (first | exact Below.refl _ _ | apply belowD | apply belowN | apply belowM | apply belowA)⟩

set_option maxRecDepth 100000 in
set_option maxHeartbeats 1000000 in
theorem rd_L3_2 (x b p lay : Int) (n r : Nat) (w : World) (x0 : 0 ≤ x) (x1 : x ≤ 4294967295) (e1 : x / 65536 % 256 = b) (e2 : x % 65536 = p) (n1 : (b == 126) = false) (n2 : (b == 127) = false) (b0 : 0 ≤ b) (b1 : b ≤ 255) (p0 : 0 ≤ p) (p1 : p ≤ 65535) (s1 : 1 ≤ n) (s2 : n ≤ 8388608) (r1 : r ≤ 524288) (h0 : (lay == 1) = true) (h1 : 112 ≤ b) (h2 : b ≤ 125) (h3 : p < 32768) (h4 : r ≤ 0) :
    Calls Try.prog 20 #[.int .u8 lay, .int .i64 n, .int .i64 r, .int .u32 x] w fun e w' => e = .returned (.agg #[.int .u8 0, .int .i64 (0)]) ∧ Below w.heap.size w w' := by
  go_enter Try.func20, Try.ntmps20
  go_wp2_with (go_at_call 27; refine (rplace_int _ _ _ (by omega) (by omega) s1 s2).mono ?_; rintro e w' ⟨rfl, rfl⟩)
  exact bodyPost_ret (v := .agg #[.int .u8 0, .int .i64 (0)]) (by simp [results, Try.results20, go_sem]) rfl ⟨rfl, by repeat (first | exact Below.refl _ _ | apply belowD | apply belowN | apply belowM | apply belowA)⟩

set_option maxRecDepth 100000 in
set_option maxHeartbeats 1000000 in
theorem rd_L3_3 (x b p lay : Int) (n r : Nat) (w : World) (x0 : 0 ≤ x) (x1 : x ≤ 4294967295) (e1 : x / 65536 % 256 = b) (e2 : x % 65536 = p) (n1 : (b == 126) = false) (n2 : (b == 127) = false) (b0 : 0 ≤ b) (b1 : b ≤ 255) (p0 : 0 ≤ p) (p1 : p ≤ 65535) (s1 : 1 ≤ n) (s2 : n ≤ 8388608) (r1 : r ≤ 524288) (h0 : (lay == 1) = true) (h1 : 112 ≤ b) (h2 : 125 < b) (h3 : 240 ≤ b) (h4 : p < 32768) (h5 : r ≤ 0) :
    Calls Try.prog 20 #[.int .u8 lay, .int .i64 n, .int .i64 r, .int .u32 x] w fun e w' => e = .returned (.agg #[.int .u8 0, .int .i64 (0)]) ∧ Below w.heap.size w w' := by
  go_enter Try.func20, Try.ntmps20
  go_wp2_with (go_at_call 27; refine (rplace_int _ _ _ (by omega) (by omega) s1 s2).mono ?_; rintro e w' ⟨rfl, rfl⟩)
  exact bodyPost_ret (v := .agg #[.int .u8 0, .int .i64 (0)]) (by simp [results, Try.results20, go_sem]) rfl ⟨rfl, by repeat (first | exact Below.refl _ _ | apply belowD | apply belowN | apply belowM | apply belowA)⟩

set_option maxRecDepth 100000 in
set_option maxHeartbeats 1000000 in
theorem rd_H1_0 (x b p lay : Int) (n r : Nat) (w : World) (x0 : 0 ≤ x) (x1 : x ≤ 4294967295) (e1 : x / 65536 % 256 = b) (e2 : x % 65536 = p) (n1 : (b == 126) = false) (n2 : (b == 127) = false) (b0 : 0 ≤ b) (b1 : b ≤ 255) (p0 : 0 ≤ p) (p1 : p ≤ 65535) (s1 : 1 ≤ n) (s2 : n ≤ 8388608) (r1 : r ≤ 524288) (h0 : (lay == 1) = false) (h1 : 32 ≤ b) (h2 : b ≤ 63) (h3 : 24576 ≤ p) (h4 : p < 32768) (h5 : 0 < r) :
    Calls Try.prog 20 #[.int .u8 lay, .int .i64 n, .int .i64 r, .int .u32 x] w fun e w' => e = .returned (.agg #[.int .u8 2, .int .i64 ((b % 32 * 8192 + p - 24576) % r)]) ∧ Below w.heap.size w w' := by
  go_enter Try.func20, Try.ntmps20
  go_wp2_with (go_at_call 27; refine (rplace_int _ _ _ (by omega) (by omega) s1 s2).mono ?_; rintro e w' ⟨rfl, rfl⟩)
  exact bodyPost_ret (v := .agg #[.int .u8 2, .int .i64 ((b % 32 * 8192 + p - 24576) % r)]) (by simp [results, Try.results20, go_sem]) rfl ⟨rfl, by repeat (first | exact Below.refl _ _ | apply belowD | apply belowN | apply belowM | apply belowA)⟩

set_option maxRecDepth 100000 in
set_option maxHeartbeats 1000000 in
theorem rd_H1_1 (x b p lay : Int) (n r : Nat) (w : World) (x0 : 0 ≤ x) (x1 : x ≤ 4294967295) (e1 : x / 65536 % 256 = b) (e2 : x % 65536 = p) (n1 : (b == 126) = false) (n2 : (b == 127) = false) (b0 : 0 ≤ b) (b1 : b ≤ 255) (p0 : 0 ≤ p) (p1 : p ≤ 65535) (s1 : 1 ≤ n) (s2 : n ≤ 8388608) (r1 : r ≤ 524288) (h0 : (lay == 1) = false) (h1 : 32 ≤ b) (h2 : 63 < b) (h3 : 160 ≤ b) (h4 : b ≤ 191) (h5 : 24576 ≤ p) (h6 : p < 32768) (h7 : 0 < r) :
    Calls Try.prog 20 #[.int .u8 lay, .int .i64 n, .int .i64 r, .int .u32 x] w fun e w' => e = .returned (.agg #[.int .u8 2, .int .i64 ((b % 32 * 8192 + p - 24576) % r)]) ∧ Below w.heap.size w w' := by
  go_enter Try.func20, Try.ntmps20
  go_wp2_with (go_at_call 27; refine (rplace_int _ _ _ (by omega) (by omega) s1 s2).mono ?_; rintro e w' ⟨rfl, rfl⟩)
  exact bodyPost_ret (v := .agg #[.int .u8 2, .int .i64 ((b % 32 * 8192 + p - 24576) % r)]) (by simp [results, Try.results20, go_sem]) rfl ⟨rfl, by repeat (first | exact Below.refl _ _ | apply belowD | apply belowN | apply belowM | apply belowA)⟩

set_option maxRecDepth 100000 in
set_option maxHeartbeats 1000000 in
theorem rd_H2_0 (x b p lay : Int) (n r : Nat) (w : World) (x0 : 0 ≤ x) (x1 : x ≤ 4294967295) (e1 : x / 65536 % 256 = b) (e2 : x % 65536 = p) (n1 : (b == 126) = false) (n2 : (b == 127) = false) (b0 : 0 ≤ b) (b1 : b ≤ 255) (p0 : 0 ≤ p) (p1 : p ≤ 65535) (s1 : 1 ≤ n) (s2 : n ≤ 8388608) (r1 : r ≤ 524288) (h0 : (lay == 1) = false) (h1 : (lay == 3) = true) (h2 : b < 32) (h3 : 24576 ≤ p) (h4 : 32768 ≤ p) :
    Calls Try.prog 20 #[.int .u8 lay, .int .i64 n, .int .i64 r, .int .u32 x] w fun e w' => e = .returned (.agg #[.int .u8 1, .int .i64 (place (b % 64 * 65536 + p + 4194304).toNat n)]) ∧ Below w.heap.size w w' := by
  go_enter Try.func20, Try.ntmps20
  go_wp2_with (go_at_call 27; refine (rplace_int _ _ _ (by omega) (by omega) s1 s2).mono ?_; rintro e w' ⟨rfl, rfl⟩)
  exact bodyPost_ret (v := .agg #[.int .u8 1, .int .i64 (place (b % 64 * 65536 + p + 4194304).toNat n)]) (by simp [results, Try.results20, go_sem]) rfl ⟨rfl, by repeat (first | exact Below.refl _ _ | apply belowD | apply belowN | apply belowM | apply belowA)⟩

set_option maxRecDepth 100000 in
set_option maxHeartbeats 1000000 in
theorem rd_H2_1 (x b p lay : Int) (n r : Nat) (w : World) (x0 : 0 ≤ x) (x1 : x ≤ 4294967295) (e1 : x / 65536 % 256 = b) (e2 : x % 65536 = p) (n1 : (b == 126) = false) (n2 : (b == 127) = false) (b0 : 0 ≤ b) (b1 : b ≤ 255) (p0 : 0 ≤ p) (p1 : p ≤ 65535) (s1 : 1 ≤ n) (s2 : n ≤ 8388608) (r1 : r ≤ 524288) (h0 : (lay == 1) = false) (h1 : (lay == 3) = false) (h2 : b < 32) (h3 : 24576 ≤ p) (h4 : 32768 ≤ p) :
    Calls Try.prog 20 #[.int .u8 lay, .int .i64 n, .int .i64 r, .int .u32 x] w fun e w' => e = .returned (.agg #[.int .u8 1, .int .i64 (place (b % 64 * 65536 + p).toNat n)]) ∧ Below w.heap.size w w' := by
  go_enter Try.func20, Try.ntmps20
  go_wp2_with (go_at_call 27; refine (rplace_int _ _ _ (by omega) (by omega) s1 s2).mono ?_; rintro e w' ⟨rfl, rfl⟩)
  exact bodyPost_ret (v := .agg #[.int .u8 1, .int .i64 (place (b % 64 * 65536 + p).toNat n)]) (by simp [results, Try.results20, go_sem]) rfl ⟨rfl, by repeat (first | exact Below.refl _ _ | apply belowD | apply belowN | apply belowM | apply belowA)⟩

set_option maxRecDepth 100000 in
set_option maxHeartbeats 1000000 in
theorem rd_H2_2 (x b p lay : Int) (n r : Nat) (w : World) (x0 : 0 ≤ x) (x1 : x ≤ 4294967295) (e1 : x / 65536 % 256 = b) (e2 : x % 65536 = p) (n1 : (b == 126) = false) (n2 : (b == 127) = false) (b0 : 0 ≤ b) (b1 : b ≤ 255) (p0 : 0 ≤ p) (p1 : p ≤ 65535) (s1 : 1 ≤ n) (s2 : n ≤ 8388608) (r1 : r ≤ 524288) (h0 : (lay == 1) = false) (h1 : (lay == 3) = true) (h2 : 32 ≤ b) (h3 : b ≤ 63) (h4 : 24576 ≤ p) (h5 : 32768 ≤ p) :
    Calls Try.prog 20 #[.int .u8 lay, .int .i64 n, .int .i64 r, .int .u32 x] w fun e w' => e = .returned (.agg #[.int .u8 1, .int .i64 (place (b % 64 * 65536 + p + 4194304).toNat n)]) ∧ Below w.heap.size w w' := by
  go_enter Try.func20, Try.ntmps20
  go_wp2_with (go_at_call 27; refine (rplace_int _ _ _ (by omega) (by omega) s1 s2).mono ?_; rintro e w' ⟨rfl, rfl⟩)
  exact bodyPost_ret (v := .agg #[.int .u8 1, .int .i64 (place (b % 64 * 65536 + p + 4194304).toNat n)]) (by simp [results, Try.results20, go_sem]) rfl ⟨rfl, by repeat (first | exact Below.refl _ _ | apply belowD | apply belowN | apply belowM | apply belowA)⟩

set_option maxRecDepth 100000 in
set_option maxHeartbeats 1000000 in
theorem rd_H2_3 (x b p lay : Int) (n r : Nat) (w : World) (x0 : 0 ≤ x) (x1 : x ≤ 4294967295) (e1 : x / 65536 % 256 = b) (e2 : x % 65536 = p) (n1 : (b == 126) = false) (n2 : (b == 127) = false) (b0 : 0 ≤ b) (b1 : b ≤ 255) (p0 : 0 ≤ p) (p1 : p ≤ 65535) (s1 : 1 ≤ n) (s2 : n ≤ 8388608) (r1 : r ≤ 524288) (h0 : (lay == 1) = false) (h1 : (lay == 3) = false) (h2 : 32 ≤ b) (h3 : b ≤ 63) (h4 : 24576 ≤ p) (h5 : 32768 ≤ p) :
    Calls Try.prog 20 #[.int .u8 lay, .int .i64 n, .int .i64 r, .int .u32 x] w fun e w' => e = .returned (.agg #[.int .u8 1, .int .i64 (place (b % 64 * 65536 + p).toNat n)]) ∧ Below w.heap.size w w' := by
  go_enter Try.func20, Try.ntmps20
  go_wp2_with (go_at_call 27; refine (rplace_int _ _ _ (by omega) (by omega) s1 s2).mono ?_; rintro e w' ⟨rfl, rfl⟩)
  exact bodyPost_ret (v := .agg #[.int .u8 1, .int .i64 (place (b % 64 * 65536 + p).toNat n)]) (by simp [results, Try.results20, go_sem]) rfl ⟨rfl, by repeat (first | exact Below.refl _ _ | apply belowD | apply belowN | apply belowM | apply belowA)⟩

set_option maxRecDepth 100000 in
set_option maxHeartbeats 1000000 in
theorem rd_H2_4 (x b p lay : Int) (n r : Nat) (w : World) (x0 : 0 ≤ x) (x1 : x ≤ 4294967295) (e1 : x / 65536 % 256 = b) (e2 : x % 65536 = p) (n1 : (b == 126) = false) (n2 : (b == 127) = false) (b0 : 0 ≤ b) (b1 : b ≤ 255) (p0 : 0 ≤ p) (p1 : p ≤ 65535) (s1 : 1 ≤ n) (s2 : n ≤ 8388608) (r1 : r ≤ 524288) (h0 : (lay == 1) = false) (h1 : (lay == 3) = true) (h2 : 32 ≤ b) (h3 : 63 < b) (h4 : 64 ≤ b) (h5 : b ≤ 125) (h6 : 24576 ≤ p) (h7 : 32768 ≤ p) :
    Calls Try.prog 20 #[.int .u8 lay, .int .i64 n, .int .i64 r, .int .u32 x] w fun e w' => e = .returned (.agg #[.int .u8 1, .int .i64 (place (b % 64 * 65536 + p + 4194304).toNat n)]) ∧ Below w.heap.size w w' := by
  go_enter Try.func20, Try.ntmps20
  go_wp2_with (go_at_call 27; refine (rplace_int _ _ _ (by omega) (by omega) s1 s2).mono ?_; rintro e w' ⟨rfl, rfl⟩)
  exact bodyPost_ret (v := .agg #[.int .u8 1, .int .i64 (place (b % 64 * 65536 + p + 4194304).toNat n)]) (by simp [results, Try.results20, go_sem]) rfl ⟨rfl, by repeat (first | exact Below.refl _ _ | apply belowD | apply belowN | apply belowM | apply belowA)⟩

set_option maxRecDepth 100000 in
set_option maxHeartbeats 1000000 in
theorem rd_H2_5 (x b p lay : Int) (n r : Nat) (w : World) (x0 : 0 ≤ x) (x1 : x ≤ 4294967295) (e1 : x / 65536 % 256 = b) (e2 : x % 65536 = p) (n1 : (b == 126) = false) (n2 : (b == 127) = false) (b0 : 0 ≤ b) (b1 : b ≤ 255) (p0 : 0 ≤ p) (p1 : p ≤ 65535) (s1 : 1 ≤ n) (s2 : n ≤ 8388608) (r1 : r ≤ 524288) (h0 : (lay == 1) = false) (h1 : (lay == 3) = true) (h2 : 32 ≤ b) (h3 : 63 < b) (h4 : 64 ≤ b) (h5 : b ≤ 125) (h6 : p < 32768) :
    Calls Try.prog 20 #[.int .u8 lay, .int .i64 n, .int .i64 r, .int .u32 x] w fun e w' => e = .returned (.agg #[.int .u8 1, .int .i64 (place (b % 64 * 65536 + p + 4194304).toNat n)]) ∧ Below w.heap.size w w' := by
  go_enter Try.func20, Try.ntmps20
  go_wp2_with (go_at_call 27; refine (rplace_int _ _ _ (by omega) (by omega) s1 s2).mono ?_; rintro e w' ⟨rfl, rfl⟩)
  exact bodyPost_ret (v := .agg #[.int .u8 1, .int .i64 (place (b % 64 * 65536 + p + 4194304).toNat n)]) (by simp [results, Try.results20, go_sem]) rfl ⟨rfl, by repeat (first | exact Below.refl _ _ | apply belowD | apply belowN | apply belowM | apply belowA)⟩

set_option maxRecDepth 100000 in
set_option maxHeartbeats 1000000 in
theorem rd_H2_6 (x b p lay : Int) (n r : Nat) (w : World) (x0 : 0 ≤ x) (x1 : x ≤ 4294967295) (e1 : x / 65536 % 256 = b) (e2 : x % 65536 = p) (n1 : (b == 126) = false) (n2 : (b == 127) = false) (b0 : 0 ≤ b) (b1 : b ≤ 255) (p0 : 0 ≤ p) (p1 : p ≤ 65535) (s1 : 1 ≤ n) (s2 : n ≤ 8388608) (r1 : r ≤ 524288) (h0 : (lay == 1) = false) (h1 : (lay == 3) = false) (h2 : 32 ≤ b) (h3 : 63 < b) (h4 : 64 ≤ b) (h5 : b ≤ 125) (h6 : 24576 ≤ p) (h7 : 32768 ≤ p) :
    Calls Try.prog 20 #[.int .u8 lay, .int .i64 n, .int .i64 r, .int .u32 x] w fun e w' => e = .returned (.agg #[.int .u8 1, .int .i64 (place (b % 64 * 65536 + p).toNat n)]) ∧ Below w.heap.size w w' := by
  go_enter Try.func20, Try.ntmps20
  go_wp2_with (go_at_call 27; refine (rplace_int _ _ _ (by omega) (by omega) s1 s2).mono ?_; rintro e w' ⟨rfl, rfl⟩)
  exact bodyPost_ret (v := .agg #[.int .u8 1, .int .i64 (place (b % 64 * 65536 + p).toNat n)]) (by simp [results, Try.results20, go_sem]) rfl ⟨rfl, by repeat (first | exact Below.refl _ _ | apply belowD | apply belowN | apply belowM | apply belowA)⟩

set_option maxRecDepth 100000 in
set_option maxHeartbeats 1000000 in
theorem rd_H2_7 (x b p lay : Int) (n r : Nat) (w : World) (x0 : 0 ≤ x) (x1 : x ≤ 4294967295) (e1 : x / 65536 % 256 = b) (e2 : x % 65536 = p) (n1 : (b == 126) = false) (n2 : (b == 127) = false) (b0 : 0 ≤ b) (b1 : b ≤ 255) (p0 : 0 ≤ p) (p1 : p ≤ 65535) (s1 : 1 ≤ n) (s2 : n ≤ 8388608) (r1 : r ≤ 524288) (h0 : (lay == 1) = false) (h1 : (lay == 3) = false) (h2 : 32 ≤ b) (h3 : 63 < b) (h4 : 64 ≤ b) (h5 : b ≤ 125) (h6 : p < 32768) :
    Calls Try.prog 20 #[.int .u8 lay, .int .i64 n, .int .i64 r, .int .u32 x] w fun e w' => e = .returned (.agg #[.int .u8 1, .int .i64 (place (b % 64 * 65536 + p).toNat n)]) ∧ Below w.heap.size w w' := by
  go_enter Try.func20, Try.ntmps20
  go_wp2_with (go_at_call 27; refine (rplace_int _ _ _ (by omega) (by omega) s1 s2).mono ?_; rintro e w' ⟨rfl, rfl⟩)
  exact bodyPost_ret (v := .agg #[.int .u8 1, .int .i64 (place (b % 64 * 65536 + p).toNat n)]) (by simp [results, Try.results20, go_sem]) rfl ⟨rfl, by repeat (first | exact Below.refl _ _ | apply belowD | apply belowN | apply belowM | apply belowA)⟩

set_option maxRecDepth 100000 in
set_option maxHeartbeats 1000000 in
theorem rd_H2_8 (x b p lay : Int) (n r : Nat) (w : World) (x0 : 0 ≤ x) (x1 : x ≤ 4294967295) (e1 : x / 65536 % 256 = b) (e2 : x % 65536 = p) (n1 : (b == 126) = false) (n2 : (b == 127) = false) (b0 : 0 ≤ b) (b1 : b ≤ 255) (p0 : 0 ≤ p) (p1 : p ≤ 65535) (s1 : 1 ≤ n) (s2 : n ≤ 8388608) (r1 : r ≤ 524288) (h0 : (lay == 1) = false) (h1 : (lay == 3) = true) (h2 : 32 ≤ b) (h3 : 63 < b) (h4 : 64 ≤ b) (h5 : 125 < b) (h6 : 128 ≤ b) (h7 : b < 160) (h8 : 24576 ≤ p) (h9 : 32768 ≤ p) :
    Calls Try.prog 20 #[.int .u8 lay, .int .i64 n, .int .i64 r, .int .u32 x] w fun e w' => e = .returned (.agg #[.int .u8 1, .int .i64 (place (b % 64 * 65536 + p).toNat n)]) ∧ Below w.heap.size w w' := by
  go_enter Try.func20, Try.ntmps20
  go_wp2_with (go_at_call 27; refine (rplace_int _ _ _ (by omega) (by omega) s1 s2).mono ?_; rintro e w' ⟨rfl, rfl⟩)
  exact bodyPost_ret (v := .agg #[.int .u8 1, .int .i64 (place (b % 64 * 65536 + p).toNat n)]) (by simp [results, Try.results20, go_sem]) rfl ⟨rfl, by repeat (first | exact Below.refl _ _ | apply belowD | apply belowN | apply belowM | apply belowA)⟩

set_option maxRecDepth 100000 in
set_option maxHeartbeats 1000000 in
theorem rd_H2_9 (x b p lay : Int) (n r : Nat) (w : World) (x0 : 0 ≤ x) (x1 : x ≤ 4294967295) (e1 : x / 65536 % 256 = b) (e2 : x % 65536 = p) (n1 : (b == 126) = false) (n2 : (b == 127) = false) (b0 : 0 ≤ b) (b1 : b ≤ 255) (p0 : 0 ≤ p) (p1 : p ≤ 65535) (s1 : 1 ≤ n) (s2 : n ≤ 8388608) (r1 : r ≤ 524288) (h0 : (lay == 1) = false) (h1 : (lay == 3) = false) (h2 : 32 ≤ b) (h3 : 63 < b) (h4 : 64 ≤ b) (h5 : 125 < b) (h6 : 128 ≤ b) (h7 : b < 160) (h8 : 24576 ≤ p) (h9 : 32768 ≤ p) :
    Calls Try.prog 20 #[.int .u8 lay, .int .i64 n, .int .i64 r, .int .u32 x] w fun e w' => e = .returned (.agg #[.int .u8 1, .int .i64 (place (b % 64 * 65536 + p).toNat n)]) ∧ Below w.heap.size w w' := by
  go_enter Try.func20, Try.ntmps20
  go_wp2_with (go_at_call 27; refine (rplace_int _ _ _ (by omega) (by omega) s1 s2).mono ?_; rintro e w' ⟨rfl, rfl⟩)
  exact bodyPost_ret (v := .agg #[.int .u8 1, .int .i64 (place (b % 64 * 65536 + p).toNat n)]) (by simp [results, Try.results20, go_sem]) rfl ⟨rfl, by repeat (first | exact Below.refl _ _ | apply belowD | apply belowN | apply belowM | apply belowA)⟩

set_option maxRecDepth 100000 in
set_option maxHeartbeats 1000000 in
theorem rd_H2_10 (x b p lay : Int) (n r : Nat) (w : World) (x0 : 0 ≤ x) (x1 : x ≤ 4294967295) (e1 : x / 65536 % 256 = b) (e2 : x % 65536 = p) (n1 : (b == 126) = false) (n2 : (b == 127) = false) (b0 : 0 ≤ b) (b1 : b ≤ 255) (p0 : 0 ≤ p) (p1 : p ≤ 65535) (s1 : 1 ≤ n) (s2 : n ≤ 8388608) (r1 : r ≤ 524288) (h0 : (lay == 1) = false) (h1 : (lay == 3) = true) (h2 : 32 ≤ b) (h3 : 63 < b) (h4 : 64 ≤ b) (h5 : 125 < b) (h6 : 160 ≤ b) (h7 : b ≤ 191) (h8 : 24576 ≤ p) (h9 : 32768 ≤ p) :
    Calls Try.prog 20 #[.int .u8 lay, .int .i64 n, .int .i64 r, .int .u32 x] w fun e w' => e = .returned (.agg #[.int .u8 1, .int .i64 (place (b % 64 * 65536 + p).toNat n)]) ∧ Below w.heap.size w w' := by
  go_enter Try.func20, Try.ntmps20
  go_wp2_with (go_at_call 27; refine (rplace_int _ _ _ (by omega) (by omega) s1 s2).mono ?_; rintro e w' ⟨rfl, rfl⟩)
  exact bodyPost_ret (v := .agg #[.int .u8 1, .int .i64 (place (b % 64 * 65536 + p).toNat n)]) (by simp [results, Try.results20, go_sem]) rfl ⟨rfl, by repeat (first | exact Below.refl _ _ | apply belowD | apply belowN | apply belowM | apply belowA)⟩

set_option maxRecDepth 100000 in
set_option maxHeartbeats 1000000 in
theorem rd_H2_11 (x b p lay : Int) (n r : Nat) (w : World) (x0 : 0 ≤ x) (x1 : x ≤ 4294967295) (e1 : x / 65536 % 256 = b) (e2 : x % 65536 = p) (n1 : (b == 126) = false) (n2 : (b == 127) = false) (b0 : 0 ≤ b) (b1 : b ≤ 255) (p0 : 0 ≤ p) (p1 : p ≤ 65535) (s1 : 1 ≤ n) (s2 : n ≤ 8388608) (r1 : r ≤ 524288) (h0 : (lay == 1) = false) (h1 : (lay == 3) = false) (h2 : 32 ≤ b) (h3 : 63 < b) (h4 : 64 ≤ b) (h5 : 125 < b) (h6 : 160 ≤ b) (h7 : b ≤ 191) (h8 : 24576 ≤ p) (h9 : 32768 ≤ p) :
    Calls Try.prog 20 #[.int .u8 lay, .int .i64 n, .int .i64 r, .int .u32 x] w fun e w' => e = .returned (.agg #[.int .u8 1, .int .i64 (place (b % 64 * 65536 + p).toNat n)]) ∧ Below w.heap.size w w' := by
  go_enter Try.func20, Try.ntmps20
  go_wp2_with (go_at_call 27; refine (rplace_int _ _ _ (by omega) (by omega) s1 s2).mono ?_; rintro e w' ⟨rfl, rfl⟩)
  exact bodyPost_ret (v := .agg #[.int .u8 1, .int .i64 (place (b % 64 * 65536 + p).toNat n)]) (by simp [results, Try.results20, go_sem]) rfl ⟨rfl, by repeat (first | exact Below.refl _ _ | apply belowD | apply belowN | apply belowM | apply belowA)⟩

set_option maxRecDepth 100000 in
set_option maxHeartbeats 1000000 in
theorem rd_H2_12 (x b p lay : Int) (n r : Nat) (w : World) (x0 : 0 ≤ x) (x1 : x ≤ 4294967295) (e1 : x / 65536 % 256 = b) (e2 : x % 65536 = p) (n1 : (b == 126) = false) (n2 : (b == 127) = false) (b0 : 0 ≤ b) (b1 : b ≤ 255) (p0 : 0 ≤ p) (p1 : p ≤ 65535) (s1 : 1 ≤ n) (s2 : n ≤ 8388608) (r1 : r ≤ 524288) (h0 : (lay == 1) = false) (h1 : (lay == 3) = true) (h2 : 32 ≤ b) (h3 : 63 < b) (h4 : 64 ≤ b) (h5 : 125 < b) (h6 : 160 ≤ b) (h7 : 191 < b) (h8 : 192 ≤ b) (h9 : 24576 ≤ p) (h10 : 32768 ≤ p) :
    Calls Try.prog 20 #[.int .u8 lay, .int .i64 n, .int .i64 r, .int .u32 x] w fun e w' => e = .returned (.agg #[.int .u8 1, .int .i64 (place (b % 64 * 65536 + p).toNat n)]) ∧ Below w.heap.size w w' := by
  go_enter Try.func20, Try.ntmps20
  go_wp2_with (go_at_call 27; refine (rplace_int _ _ _ (by omega) (by omega) s1 s2).mono ?_; rintro e w' ⟨rfl, rfl⟩)
  exact bodyPost_ret (v := .agg #[.int .u8 1, .int .i64 (place (b % 64 * 65536 + p).toNat n)]) (by simp [results, Try.results20, go_sem]) rfl ⟨rfl, by repeat (first | exact Below.refl _ _ | apply belowD | apply belowN | apply belowM | apply belowA)⟩

set_option maxRecDepth 100000 in
set_option maxHeartbeats 1000000 in
theorem rd_H2_13 (x b p lay : Int) (n r : Nat) (w : World) (x0 : 0 ≤ x) (x1 : x ≤ 4294967295) (e1 : x / 65536 % 256 = b) (e2 : x % 65536 = p) (n1 : (b == 126) = false) (n2 : (b == 127) = false) (b0 : 0 ≤ b) (b1 : b ≤ 255) (p0 : 0 ≤ p) (p1 : p ≤ 65535) (s1 : 1 ≤ n) (s2 : n ≤ 8388608) (r1 : r ≤ 524288) (h0 : (lay == 1) = false) (h1 : (lay == 3) = true) (h2 : 32 ≤ b) (h3 : 63 < b) (h4 : 64 ≤ b) (h5 : 125 < b) (h6 : 160 ≤ b) (h7 : 191 < b) (h8 : 192 ≤ b) (h9 : p < 32768) :
    Calls Try.prog 20 #[.int .u8 lay, .int .i64 n, .int .i64 r, .int .u32 x] w fun e w' => e = .returned (.agg #[.int .u8 1, .int .i64 (place (b % 64 * 65536 + p).toNat n)]) ∧ Below w.heap.size w w' := by
  go_enter Try.func20, Try.ntmps20
  go_wp2_with (go_at_call 27; refine (rplace_int _ _ _ (by omega) (by omega) s1 s2).mono ?_; rintro e w' ⟨rfl, rfl⟩)
  exact bodyPost_ret (v := .agg #[.int .u8 1, .int .i64 (place (b % 64 * 65536 + p).toNat n)]) (by simp [results, Try.results20, go_sem]) rfl ⟨rfl, by repeat (first | exact Below.refl _ _ | apply belowD | apply belowN | apply belowM | apply belowA)⟩

set_option maxRecDepth 100000 in
set_option maxHeartbeats 1000000 in
theorem rd_H2_14 (x b p lay : Int) (n r : Nat) (w : World) (x0 : 0 ≤ x) (x1 : x ≤ 4294967295) (e1 : x / 65536 % 256 = b) (e2 : x % 65536 = p) (n1 : (b == 126) = false) (n2 : (b == 127) = false) (b0 : 0 ≤ b) (b1 : b ≤ 255) (p0 : 0 ≤ p) (p1 : p ≤ 65535) (s1 : 1 ≤ n) (s2 : n ≤ 8388608) (r1 : r ≤ 524288) (h0 : (lay == 1) = false) (h1 : (lay == 3) = false) (h2 : 32 ≤ b) (h3 : 63 < b) (h4 : 64 ≤ b) (h5 : 125 < b) (h6 : 160 ≤ b) (h7 : 191 < b) (h8 : 192 ≤ b) (h9 : 24576 ≤ p) (h10 : 32768 ≤ p) :
    Calls Try.prog 20 #[.int .u8 lay, .int .i64 n, .int .i64 r, .int .u32 x] w fun e w' => e = .returned (.agg #[.int .u8 1, .int .i64 (place (b % 64 * 65536 + p).toNat n)]) ∧ Below w.heap.size w w' := by
  go_enter Try.func20, Try.ntmps20
  go_wp2_with (go_at_call 27; refine (rplace_int _ _ _ (by omega) (by omega) s1 s2).mono ?_; rintro e w' ⟨rfl, rfl⟩)
  exact bodyPost_ret (v := .agg #[.int .u8 1, .int .i64 (place (b % 64 * 65536 + p).toNat n)]) (by simp [results, Try.results20, go_sem]) rfl ⟨rfl, by repeat (first | exact Below.refl _ _ | apply belowD | apply belowN | apply belowM | apply belowA)⟩

set_option maxRecDepth 100000 in
set_option maxHeartbeats 1000000 in
theorem rd_H2_15 (x b p lay : Int) (n r : Nat) (w : World) (x0 : 0 ≤ x) (x1 : x ≤ 4294967295) (e1 : x / 65536 % 256 = b) (e2 : x % 65536 = p) (n1 : (b == 126) = false) (n2 : (b == 127) = false) (b0 : 0 ≤ b) (b1 : b ≤ 255) (p0 : 0 ≤ p) (p1 : p ≤ 65535) (s1 : 1 ≤ n) (s2 : n ≤ 8388608) (r1 : r ≤ 524288) (h0 : (lay == 1) = false) (h1 : (lay == 3) = false) (h2 : 32 ≤ b) (h3 : 63 < b) (h4 : 64 ≤ b) (h5 : 125 < b) (h6 : 160 ≤ b) (h7 : 191 < b) (h8 : 192 ≤ b) (h9 : p < 32768) :
    Calls Try.prog 20 #[.int .u8 lay, .int .i64 n, .int .i64 r, .int .u32 x] w fun e w' => e = .returned (.agg #[.int .u8 1, .int .i64 (place (b % 64 * 65536 + p).toNat n)]) ∧ Below w.heap.size w w' := by
  go_enter Try.func20, Try.ntmps20
  go_wp2_with (go_at_call 27; refine (rplace_int _ _ _ (by omega) (by omega) s1 s2).mono ?_; rintro e w' ⟨rfl, rfl⟩)
  exact bodyPost_ret (v := .agg #[.int .u8 1, .int .i64 (place (b % 64 * 65536 + p).toNat n)]) (by simp [results, Try.results20, go_sem]) rfl ⟨rfl, by repeat (first | exact Below.refl _ _ | apply belowD | apply belowN | apply belowM | apply belowA)⟩

set_option maxRecDepth 100000 in
set_option maxHeartbeats 1000000 in
theorem rd_H3_0 (x b p lay : Int) (n r : Nat) (w : World) (x0 : 0 ≤ x) (x1 : x ≤ 4294967295) (e1 : x / 65536 % 256 = b) (e2 : x % 65536 = p) (n1 : (b == 126) = false) (n2 : (b == 127) = false) (b0 : 0 ≤ b) (b1 : b ≤ 255) (p0 : 0 ≤ p) (p1 : p ≤ 65535) (s1 : 1 ≤ n) (s2 : n ≤ 8388608) (r1 : r ≤ 524288) (h0 : (lay == 1) = false) (h1 : b < 32) (h2 : p < 32768) :
    Calls Try.prog 20 #[.int .u8 lay, .int .i64 n, .int .i64 r, .int .u32 x] w fun e w' => e = .returned (.agg #[.int .u8 0, .int .i64 (0)]) ∧ Below w.heap.size w w' := by
  go_enter Try.func20, Try.ntmps20
  go_wp2_with (go_at_call 27; refine (rplace_int _ _ _ (by omega) (by omega) s1 s2).mono ?_; rintro e w' ⟨rfl, rfl⟩)
  exact bodyPost_ret (v := .agg #[.int .u8 0, .int .i64 (0)]) (by simp [results, Try.results20, go_sem]) rfl ⟨rfl, by repeat (first | exact Below.refl _ _ | apply belowD | apply belowN | apply belowM | apply belowA)⟩

set_option maxRecDepth 100000 in
set_option maxHeartbeats 1000000 in
theorem rd_H3_1 (x b p lay : Int) (n r : Nat) (w : World) (x0 : 0 ≤ x) (x1 : x ≤ 4294967295) (e1 : x / 65536 % 256 = b) (e2 : x % 65536 = p) (n1 : (b == 126) = false) (n2 : (b == 127) = false) (b0 : 0 ≤ b) (b1 : b ≤ 255) (p0 : 0 ≤ p) (p1 : p ≤ 65535) (s1 : 1 ≤ n) (s2 : n ≤ 8388608) (r1 : r ≤ 524288) (h0 : (lay == 1) = false) (h1 : 32 ≤ b) (h2 : 63 < b) (h3 : 64 ≤ b) (h4 : 125 < b) (h5 : 128 ≤ b) (h6 : b < 160) (h7 : p < 32768) :
    Calls Try.prog 20 #[.int .u8 lay, .int .i64 n, .int .i64 r, .int .u32 x] w fun e w' => e = .returned (.agg #[.int .u8 0, .int .i64 (0)]) ∧ Below w.heap.size w w' := by
  go_enter Try.func20, Try.ntmps20
  go_wp2_with (go_at_call 27; refine (rplace_int _ _ _ (by omega) (by omega) s1 s2).mono ?_; rintro e w' ⟨rfl, rfl⟩)
  exact bodyPost_ret (v := .agg #[.int .u8 0, .int .i64 (0)]) (by simp [results, Try.results20, go_sem]) rfl ⟨rfl, by repeat (first | exact Below.refl _ _ | apply belowD | apply belowN | apply belowM | apply belowA)⟩

set_option maxRecDepth 100000 in
set_option maxHeartbeats 1000000 in
theorem rd_H3_2 (x b p lay : Int) (n r : Nat) (w : World) (x0 : 0 ≤ x) (x1 : x ≤ 4294967295) (e1 : x / 65536 % 256 = b) (e2 : x % 65536 = p) (n1 : (b == 126) = false) (n2 : (b == 127) = false) (b0 : 0 ≤ b) (b1 : b ≤ 255) (p0 : 0 ≤ p) (p1 : p ≤ 65535) (s1 : 1 ≤ n) (s2 : n ≤ 8388608) (r1 : r ≤ 524288) (h0 : (lay == 1) = false) (h1 : 32 ≤ b) (h2 : b ≤ 63) (h3 : p < 24576) (h4 : p < 32768) :
    Calls Try.prog 20 #[.int .u8 lay, .int .i64 n, .int .i64 r, .int .u32 x] w fun e w' => e = .returned (.agg #[.int .u8 0, .int .i64 (0)]) ∧ Below w.heap.size w w' := by
  go_enter Try.func20, Try.ntmps20
  go_wp2_with (go_at_call 27; refine (rplace_int _ _ _ (by omega) (by omega) s1 s2).mono ?_; rintro e w' ⟨rfl, rfl⟩)
  exact bodyPost_ret (v := .agg #[.int .u8 0, .int .i64 (0)]) (by simp [results, Try.results20, go_sem]) rfl ⟨rfl, by repeat (first | exact Below.refl _ _ | apply belowD | apply belowN | apply belowM | apply belowA)⟩

set_option maxRecDepth 100000 in
set_option maxHeartbeats 1000000 in
theorem rd_H3_3 (x b p lay : Int) (n r : Nat) (w : World) (x0 : 0 ≤ x) (x1 : x ≤ 4294967295) (e1 : x / 65536 % 256 = b) (e2 : x % 65536 = p) (n1 : (b == 126) = false) (n2 : (b == 127) = false) (b0 : 0 ≤ b) (b1 : b ≤ 255) (p0 : 0 ≤ p) (p1 : p ≤ 65535) (s1 : 1 ≤ n) (s2 : n ≤ 8388608) (r1 : r ≤ 524288) (h0 : (lay == 1) = false) (h1 : 32 ≤ b) (h2 : b ≤ 63) (h3 : 24576 ≤ p) (h4 : p < 32768) (h5 : r ≤ 0) :
    Calls Try.prog 20 #[.int .u8 lay, .int .i64 n, .int .i64 r, .int .u32 x] w fun e w' => e = .returned (.agg #[.int .u8 0, .int .i64 (0)]) ∧ Below w.heap.size w w' := by
  go_enter Try.func20, Try.ntmps20
  go_wp2_with (go_at_call 27; refine (rplace_int _ _ _ (by omega) (by omega) s1 s2).mono ?_; rintro e w' ⟨rfl, rfl⟩)
  exact bodyPost_ret (v := .agg #[.int .u8 0, .int .i64 (0)]) (by simp [results, Try.results20, go_sem]) rfl ⟨rfl, by repeat (first | exact Below.refl _ _ | apply belowD | apply belowN | apply belowM | apply belowA)⟩

set_option maxRecDepth 100000 in
set_option maxHeartbeats 1000000 in
theorem rd_H3_4 (x b p lay : Int) (n r : Nat) (w : World) (x0 : 0 ≤ x) (x1 : x ≤ 4294967295) (e1 : x / 65536 % 256 = b) (e2 : x % 65536 = p) (n1 : (b == 126) = false) (n2 : (b == 127) = false) (b0 : 0 ≤ b) (b1 : b ≤ 255) (p0 : 0 ≤ p) (p1 : p ≤ 65535) (s1 : 1 ≤ n) (s2 : n ≤ 8388608) (r1 : r ≤ 524288) (h0 : (lay == 1) = false) (h1 : 32 ≤ b) (h2 : 63 < b) (h3 : 64 ≤ b) (h4 : 125 < b) (h5 : 160 ≤ b) (h6 : b ≤ 191) (h7 : p < 24576) (h8 : p < 32768) :
    Calls Try.prog 20 #[.int .u8 lay, .int .i64 n, .int .i64 r, .int .u32 x] w fun e w' => e = .returned (.agg #[.int .u8 0, .int .i64 (0)]) ∧ Below w.heap.size w w' := by
  go_enter Try.func20, Try.ntmps20
  go_wp2_with (go_at_call 27; refine (rplace_int _ _ _ (by omega) (by omega) s1 s2).mono ?_; rintro e w' ⟨rfl, rfl⟩)
  exact bodyPost_ret (v := .agg #[.int .u8 0, .int .i64 (0)]) (by simp [results, Try.results20, go_sem]) rfl ⟨rfl, by repeat (first | exact Below.refl _ _ | apply belowD | apply belowN | apply belowM | apply belowA)⟩

set_option maxRecDepth 100000 in
set_option maxHeartbeats 1000000 in
theorem rd_H3_5 (x b p lay : Int) (n r : Nat) (w : World) (x0 : 0 ≤ x) (x1 : x ≤ 4294967295) (e1 : x / 65536 % 256 = b) (e2 : x % 65536 = p) (n1 : (b == 126) = false) (n2 : (b == 127) = false) (b0 : 0 ≤ b) (b1 : b ≤ 255) (p0 : 0 ≤ p) (p1 : p ≤ 65535) (s1 : 1 ≤ n) (s2 : n ≤ 8388608) (r1 : r ≤ 524288) (h0 : (lay == 1) = false) (h1 : 32 ≤ b) (h2 : 63 < b) (h3 : 64 ≤ b) (h4 : 125 < b) (h5 : 160 ≤ b) (h6 : b ≤ 191) (h7 : 24576 ≤ p) (h8 : p < 32768) (h9 : r ≤ 0) :
    Calls Try.prog 20 #[.int .u8 lay, .int .i64 n, .int .i64 r, .int .u32 x] w fun e w' => e = .returned (.agg #[.int .u8 0, .int .i64 (0)]) ∧ Below w.heap.size w w' := by
  go_enter Try.func20, Try.ntmps20
  go_wp2_with (go_at_call 27; refine (rplace_int _ _ _ (by omega) (by omega) s1 s2).mono ?_; rintro e w' ⟨rfl, rfl⟩)
  exact bodyPost_ret (v := .agg #[.int .u8 0, .int .i64 (0)]) (by simp [results, Try.results20, go_sem]) rfl ⟨rfl, by repeat (first | exact Below.refl _ _ | apply belowD | apply belowN | apply belowM | apply belowA)⟩

end Go.Proofs.Ytbfpacngphjkcaa

