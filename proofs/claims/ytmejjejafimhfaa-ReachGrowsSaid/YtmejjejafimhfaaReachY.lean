/- Words, pointers, offsets. -/
import Derived.Test.YtmejjejafimhfaaReachX
namespace Go.Proofs.Ytmejjejafimhfaa
open Go.RowKit
set_option linter.unusedVariables false
set_option linter.unusedSimpArgs false

theorem or_high (i : Nat) (hi : i < 32) (y x : Int) (hx0 : 0 ≤ x) (hx1 : x ≤ 4294967295) (hx : x % 2 ^ i = 0) (hy0 : 0 ≤ y) (hy1 : y < 2 ^ i) : bits .or .u32 y x = y + x := by
  have := or_low i hi x y hx0 hx1 hx hy0 hy1
  have h1 : y ≤ 4294967295 := by
    have hlt : (2 : Int) ^ i ≤ 2 ^ 31 := by
      have : 2 ^ i ≤ 2 ^ 31 := Nat.pow_le_pow_right (by omega) (by omega)
      exact_mod_cast this
    omega
  have a1 := u32_or_nat x.toNat y.toNat (by omega) (by omega)
  have a2 := u32_or_nat y.toNat x.toNat (by omega) (by omega)
  rw [Int.toNat_of_nonneg hx0, Int.toNat_of_nonneg hy0] at a1 a2
  rw [a2, Nat.or_comm, ← a1, this]; omega
theorem or_high16 (y x : Int) (hx0 : 0 ≤ x) (hx1 : x ≤ 65535) (hx : x % 256 = 0) (hy0 : 0 ≤ y) (hy1 : y < 256) : bits .or .u16 y x = y + x := by
  have := u16_or_nat y.toNat x.toNat (by omega) (by omega)
  rw [Int.toNat_of_nonneg hx0, Int.toNat_of_nonneg hy0] at this
  obtain ⟨q, hq⟩ : ∃ q, x.toNat = 2 ^ 8 * q := ⟨x.toNat / 256, by omega⟩
  have e : y.toNat ||| x.toNat = y.toNat + x.toNat := by
    rw [Nat.or_comm, hq, ← Nat.two_pow_add_eq_or_of_lt (i := 8) (b := y.toNat) (by omega) q]
    omega
  rw [e] at this
  rw [this]; omega

theorem mFetch_rng {w : World} {g : Nat} {s : St} (h : In w g s) : 0 ≤ (mFetch s).1 ∧ (mFetch s).1 ≤ 255 := rdB_rng h.rng
theorem mRead_rng {w : World} {g : Nat} {s : St} (h : In w g s) (ad : Int) : 0 ≤ (mRead ad s).1 ∧ (mRead ad s).1 ≤ 255 := rdB_rng h.rng

set_option maxHeartbeats 1000000 in
theorem fetch16_m (g : Nat) (s : St) (w : World) (h : In w g s) :
    Calls Try.prog 29 #[.pointer (some ⟨g, 0, none⟩)] w fun e w' => Ret w g (.int .u16 (mFetch16 s).1) (mFetch16 s).2 e w' ∧ 0 ≤ (mFetch16 s).1 ∧ (mFetch16 s).1 ≤ 65535 := by
  obtain ⟨a0, a1⟩ := mFetch_rng h
  obtain ⟨⟨lo, s1⟩, hq⟩ : ∃ q, mFetch s = q := ⟨_, rfl⟩
  obtain ⟨⟨hi, s2⟩, ht⟩ : ∃ q, mFetch s1 = q := ⟨_, rfl⟩
  have hf : mFetch16 s = (lo + hi * 256, s2) := by simp only [mFetch16, hq, ht]
  rw [hq] at a0 a1
  rw [hf]
  have H := Lib.hid h
  have HQ := Lib.hid hq
  have HT := Lib.hid ht
  simp only at a0 a1 ⊢
  clear h hq ht hf
  go_enter Try.func29, Try.ntmps29
  go_wp2_with fail
  refine (fetch_m g s _ H.out).mono ?_
  rw [HQ.out]
  rintro e w1 ⟨rfl, k1, u1⟩
  obtain ⟨b0, b1⟩ := mFetch_rng k1
  simp only [HT.out] at b0 b1
  have e1 := or_high16 lo (hi * 256) (by omega) (by omega) (by omega) a0 (by omega)
  have K1 := Lib.hid k1
  have U1 := Lib.hid u1
  clear k1 u1
  go_wp2_with fail
  refine (fetch_m g s1 _ K1.out).mono ?_
  rw [HT.out]
  rintro e w2 ⟨rfl, k2, u2⟩
  have K2 := Lib.hid k2
  have U2 := Lib.hid u2
  clear k2 u2
  go_wp2_with fail
  go_ret
  exact ⟨⟨rfl, K2.out, U1.out.trans U2.out⟩, by omega, by omega⟩

set_option maxHeartbeats 1000000 in
theorem fetch24_m (g : Nat) (s : St) (w : World) (h : In w g s) :
    Calls Try.prog 30 #[.pointer (some ⟨g, 0, none⟩)] w fun e w' => Ret w g (.int .u32 (mFetch24 s).1) (mFetch24 s).2 e w' ∧ 0 ≤ (mFetch24 s).1 ∧ (mFetch24 s).1 ≤ 16777215 := by
  obtain ⟨⟨lo, s1⟩, hq⟩ : ∃ q, mFetch16 s = q := ⟨_, rfl⟩
  obtain ⟨⟨hi, s2⟩, ht⟩ : ∃ q, mFetch s1 = q := ⟨_, rfl⟩
  have hf : mFetch24 s = (lo + hi * 65536, s2) := by simp only [mFetch24, hq, ht]
  rw [hf]
  have H := Lib.hid h
  have HQ := Lib.hid hq
  have HT := Lib.hid ht
  simp only
  clear h hq ht hf
  go_enter Try.func30, Try.ntmps30
  go_wp2_with fail
  refine (fetch16_m g s _ H.out).mono ?_
  rw [HQ.out]
  rintro e w1 ⟨⟨rfl, k1, u1⟩, a0, a1⟩
  obtain ⟨b0, b1⟩ := mFetch_rng k1
  simp only [HT.out] at a0 a1 b0 b1
  have e1 := or_high 16 (by omega) lo (hi * 65536) (by omega) (by omega) (by omega) a0 (by omega)
  have K1 := Lib.hid k1
  have U1 := Lib.hid u1
  clear k1 u1
  go_wp2_with fail
  refine (fetch_m g s1 _ K1.out).mono ?_
  rw [HT.out]
  rintro e w2 ⟨rfl, k2, u2⟩
  have K2 := Lib.hid k2
  have U2 := Lib.hid u2
  clear k2 u2
  go_wp2_with fail
  go_ret
  exact ⟨⟨rfl, K2.out, U1.out.trans U2.out⟩, by omega, by omega⟩

theorem page_m (g : Nat) (s : St) (w : World) (h : In w g s) :
    Calls Try.prog 33 #[.pointer (some ⟨g, 0, none⟩)] w (Ret w g (.tuple #[]) (mPage s)) := by
  obtain ⟨_, _, _, _, _, _, _, _, d0, d1, _⟩ := h.ok
  obtain ⟨_, _, _, _, c4, _, _, _, _, _⟩ := h.regs
  have e1 := and255_16 s.r.d d0 d1
  have H := Lib.hid h
  clear h
  by_cases c : s.r.d % 256 = 0
  · have hp : mPage s = s := by unfold mPage; rw [if_pos c]
    rw [hp]
    have t : (s.r.d % 256 != 0) = false := by simp [c]
    clear c hp
    go_enter Try.func33, Try.ntmps33
    go_wp2_with fail
    go_end0
    exact ⟨rfl, H.out, Upd.refl _ _⟩
  · have hp : mPage s = mIdle s := by unfold mPage; rw [if_neg c]
    rw [hp]
    have t : (s.r.d % 256 != 0) = true := by simp [c]
    clear c hp
    go_enter Try.func33, Try.ntmps33
    go_wp2_with fail
    refine (idle_m g s _ H.out).mono ?_
    rintro e w1 ⟨rfl, k1, u1⟩
    have K1 := Lib.hid k1
    have U1 := Lib.hid u1
    clear k1 u1
    go_wp2_with fail
    go_end0
    exact ⟨rfl, K1.out, U1.out⟩

set_option maxHeartbeats 1000000 in
theorem offset_m (g : Nat) (s : St) (w : World) (h : In w g s) :
    Calls Try.prog 25 #[.pointer (some ⟨g, 0, none⟩)] w fun e w' => Ret w g (.int .u32 (mOffset s).1) (mOffset s).2 e w' ∧ 0 ≤ (mOffset s).1 ∧ (mOffset s).1 ≤ 255 := by
  obtain ⟨a0, a1⟩ := mFetch_rng h
  obtain ⟨⟨o, s1⟩, hq⟩ : ∃ q, mFetch s = q := ⟨_, rfl⟩
  have hf : mOffset s = (o, mPage s1) := by simp only [mOffset, hq]
  rw [hq] at a0 a1
  rw [hf]
  have H := Lib.hid h
  have HQ := Lib.hid hq
  simp only at a0 a1 ⊢
  clear h hq hf
  go_enter Try.func25, Try.ntmps25
  go_wp2_with fail
  refine (fetch_m g s _ H.out).mono ?_
  rw [HQ.out]
  rintro e w1 ⟨rfl, k1, u1⟩
  have K1 := Lib.hid k1
  have U1 := Lib.hid u1
  clear k1 u1
  go_wp2_with fail
  refine (page_m g s1 _ K1.out).mono ?_
  rintro e w2 ⟨rfl, k2, u2⟩
  have K2 := Lib.hid k2
  have U2 := Lib.hid u2
  clear k2 u2
  go_wp2_with fail
  go_ret
  exact ⟨⟨rfl, K2.out, U1.out.trans U2.out⟩, by omega, by omega⟩

theorem bank_m (n : Int) (g : Nat) (s : St) (w : World) (h : In w g s) (n0 : 0 ≤ n) (n1 : n ≤ 4294967295) :
    Calls Try.prog 23 #[.pointer (some ⟨g, 0, none⟩), .int .u32 n] w fun e w' => (e = .returned (.int .u32 (bankOf s.r n)) ∧ w = w') ∧ 0 ≤ bankOf s.r n ∧ bankOf s.r n ≤ 16777215 := by
  obtain ⟨_, _, _, _, _, _, _, _, _, _, _, _, b0, b1, _⟩ := h.ok
  obtain ⟨_, _, _, _, _, _, c6, _, _, _⟩ := h.regs
  have e1 := and65535_32 n n0 n1
  have e2 := or_low 16 (by omega) (s.r.b * 65536) (n % 65536) (by omega) (by omega) (by omega) (by omega) (by omega)
  clear h
  go_enter Try.func23, Try.ntmps23
  go_wp2_with fail
  go_ret
  exact ⟨⟨rfl, rfl⟩, by unfold bankOf; omega, by unfold bankOf; omega⟩

theorem direct_rng (d : Int) (e : Bool) (n : Int) (d0 : 0 ≤ d) (d1 : d ≤ 65535) (n0 : 0 ≤ n) : 0 ≤ directOf d e n ∧ directOf d e n ≤ 65790 := by
  unfold directOf; split <;> omega

set_option maxHeartbeats 1000000 in
theorem pointer_m (o : Int) (g : Nat) (s : St) (w : World) (h : In w g s) (o0 : 0 ≤ o) (o1 : o ≤ 4294967295) :
    Calls Try.prog 24 #[.pointer (some ⟨g, 0, none⟩), .int .u32 o] w fun e w' => Ret w g (.int .u32 (mPointer o s).1) (mPointer o s).2 e w' ∧ 0 ≤ (mPointer o s).1 ∧ (mPointer o s).1 ≤ 65535 := by
  obtain ⟨_, _, _, _, _, _, _, _, d0, d1, _⟩ := h.ok
  obtain ⟨c0, c1, c2, c3, c4, c5, c6, c7, c8, c9⟩ := h.regs
  obtain ⟨r1, r2⟩ := direct_rng s.r.d s.r.e o d0 d1 o0
  obtain ⟨r3, r4⟩ := direct_rng s.r.d s.r.e ((o + 1) % 4294967296) d0 d1 (by omega)
  obtain ⟨a0, a1⟩ := mRead_rng h (directOf s.r.d s.r.e o)
  obtain ⟨⟨lo, s1⟩, hq⟩ : ∃ q, mRead (directOf s.r.d s.r.e o) s = q := ⟨_, rfl⟩
  have hr : s1.r = s.r := by
    have := congrArg (fun q => q.2.r) hq
    exact this.symm
  obtain ⟨⟨hi, s2⟩, ht⟩ : ∃ q, mRead (directOf s.r.d s.r.e ((o + 1) % 4294967296)) s1 = q := ⟨_, rfl⟩
  have hf : mPointer o s = (lo + hi * 256, s2) := by simp only [mPointer, hq, hr, ht]
  rw [hq] at a0 a1
  rw [hf]
  have H := Lib.hid h
  have HQ := Lib.hid hq
  have HT := Lib.hid ht
  have HR := Lib.hid hr
  have ew : IntKind.u32.wrap (o + 1) = (o + 1) % 4294967296 := by rw [IntKind.wrap_u32]
  simp only at a0 a1 ⊢
  clear h hq ht hf hr
  go_enter Try.func24, Try.ntmps24
  go_wp2_with fail
  refine (wdirect s.r.a s.r.x s.r.y s.r.s s.r.d s.r.pc s.r.b s.r.k s.r.p o s.r.e _ d0 d1 o0 o1).mono ?_
  rintro e w0 ⟨rfl, hb0⟩
  have H0 := Lib.hid (H.out.upd hb0)
  have U0 := Lib.hid (Upd.ofBelow hb0 g)
  clear hb0
  go_wp2_with fail
  refine (read_m (directOf s.r.d s.r.e o) g s _ H0.out r1 (by omega)).mono ?_
  rw [HQ.out]
  rintro e w1 ⟨rfl, k1, u1⟩
  obtain ⟨b0, b1⟩ := mRead_rng k1 (directOf s.r.d s.r.e ((o + 1) % 4294967296))
  simp only [HT.out] at b0 b1
  have cc := k1.regs
  simp only [HR.out] at cc
  obtain ⟨c0, c1, c2, c3, c4, c5, c6, c7, c8, c9⟩ := cc
  have e1 := or_high 8 (by omega) lo (hi * 256) (by omega) (by omega) (by omega) a0 (by omega)
  have K1 := Lib.hid k1
  have U1 := Lib.hid (U0.out.trans u1)
  clear k1 u1 U0
  go_wp2_with fail
  refine (wdirect s.r.a s.r.x s.r.y s.r.s s.r.d s.r.pc s.r.b s.r.k s.r.p ((o + 1) % 4294967296) s.r.e _ d0 d1 (by omega) (by omega)).mono ?_
  rintro e w2 ⟨rfl, hb2⟩
  have K2 := Lib.hid (K1.out.upd hb2)
  have U2 := Lib.hid (U1.out.below hb2)
  clear hb2 U1 K1
  go_wp2_with fail
  refine (read_m (directOf s.r.d s.r.e ((o + 1) % 4294967296)) g s1 _ K2.out r3 (by omega)).mono ?_
  rw [HT.out]
  rintro e w3 ⟨rfl, k3, u3⟩
  have K3 := Lib.hid k3
  have U3 := Lib.hid (U2.out.trans u3)
  clear k3 u3 U2
  go_wp2_with fail
  go_ret
  exact ⟨⟨rfl, K3.out, U3.out⟩, by omega, by omega⟩
end Go.Proofs.Ytmejjejafimhfaa
