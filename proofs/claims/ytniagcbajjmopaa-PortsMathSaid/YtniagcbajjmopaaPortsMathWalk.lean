/- PortsMath: the walk. -/
import Derived.Test.YtniagcbajjmopaaPortsF
import Derived.WalkKit
import Derived.ProofKit
import Derived.OpenShut
namespace Go.Proofs.Ytniagcbajjmopaa.portsMath
open Go.RowKit
set_option linter.unusedVariables false
set_option linter.unusedSimpArgs false
set_option maxRecDepth 100000
set_option maxHeartbeats 1000000 in
theorem word_any {w : World} {g : Nat} {s : Pt} (A : Po w g s) (p x : Int) (hx : (p = 16916 ∧ x = s.quotient) ∨ (p = 16918 ∧ x = s.product)) (q0 : 0 ≤ s.quotient) (q1 : s.quotient ≤ 65535) (p0 : 0 ≤ s.product) (p1 : s.product ≤ 65535) :
    Calls Try.prog 10 #[poP g, .int .u16 p] w (Says w (.int .i64 x)) := by
  have R1 := Lib.hid (fun (w' : World) (a : Po w' g s) => read_word a p 0 (x % 256) (by rcases hx with ⟨h, k⟩ | ⟨h, k⟩ <;> subst k <;> simp [h]) q0 q1 p0 p1)
  have R2 := Lib.hid (fun (w' : World) (a : Po w' g s) => read_word a (p + 1) 0 (x / 256) (by rcases hx with ⟨h, k⟩ | ⟨h, k⟩ <;> subst k <;> simp [h]) q0 q1 p0 p1)
  have x0 : 0 ≤ x := by rcases hx with ⟨_, k⟩ | ⟨_, k⟩ <;> omega
  have x1 : x ≤ 65535 := by rcases hx with ⟨_, k⟩ | ⟨_, k⟩ <;> omega
  have hp0 : 0 ≤ p := by rcases hx with ⟨h, _⟩ | ⟨h, _⟩ <;> omega
  have hp1 : p ≤ 20000 := by rcases hx with ⟨h, _⟩ | ⟨h, _⟩ <;> omega
  have HA := Lib.hid A
  clear A hx q0 q1 p0 p1
  go_enter Try.func10, Try.ntmps10
  go_wp2_with fail
  refine (R1.out _ HA.out).mono ?_
  rintro e w1 ⟨rfl, hb1⟩
  have A1 := Lib.hid (HA.out.kept hb1)
  have B1 := Lib.hid hb1
  clear hb1 HA
  go_wp2_with fail
  refine (R2.out _ A1.out).mono ?_
  rintro e w2 ⟨rfl, hb2⟩
  have B2 := Lib.hid (B1.out.trans (hb2.mono B1.out.size))
  clear hb2 A1 B1
  go_wp2_with fail
  go_ret
  refine ⟨?_, B2.out⟩
  show Ending.returned (.int .i64 (x % 256 + 256 * (x / 256))) = _
  rw [show x % 256 + 256 * (x / 256) = x by omega]

set_option maxHeartbeats 4000000 in
theorem law (a b n : Int) (w : World) (a0 : 0 ≤ a) (a1 : a ≤ 255) (b0 : 0 ≤ b) (b1 : b ≤ 255) (n0 : 0 ≤ n) (n1 : n ≤ 65535) :
    Calls Try.prog 3 #[.int .u8 a, .int .u8 b, .int .u16 n] w (Says w (.bool true)) := by
  have AW := Lib.hid awake_any
  obtain ⟨m, hm⟩ : ∃ m, a * b = m := ⟨_, rfl⟩
  have m0 : 0 ≤ m := by rw [← hm]; exact Int.mul_nonneg a0 b0
  have m1 : m ≤ 65025 := by
    rw [← hm]
    exact Int.le_trans (Int.mul_le_mul_of_nonneg_right a1 b0) (Int.mul_le_mul_of_nonneg_left b1 (by omega))
  have HMM := Lib.hid (show a * b = m from hm)
  go_enter Try.func3, Try.ntmps3
  go_wp2_with fail
  refine (new_any w).mono ?_
  rintro e w1 ⟨g, rfl, hg, a', hb1⟩
  have A1 := Lib.hid a'
  have B1 := Lib.hid hb1
  clear a' hb1
  go_wp2_with fail
  refine (write_factor A1.out a).mono ?_
  rintro e w2 ⟨rfl, a', u'⟩
  have A2 := Lib.hid a'
  have B2 := Lib.hid (u'.out B1.out hg)
  clear a' u' A1 B1
  go_wp2_with fail
  refine (write_multiply A2.out b a0 a1 b0 b1).mono ?_
  rintro e w3 ⟨rfl, a', u'⟩
  have a'' : Po w3 g { Pt.zero with factor := a, product := a * b, quotient := b } := a'
  rw [HMM.out] at a''
  have A3 := Lib.hid a''
  have B3 := Lib.hid (u'.out B2.out hg)
  clear a' a'' u' A2 B2
  go_wp2_with fail
  refine (word_any A3.out 16918 m (Or.inr ⟨rfl, rfl⟩) b0 (by show b ≤ 65535; omega) m0 (by show m ≤ 65535; omega)).mono ?_
  rintro e w4 ⟨rfl, hb4⟩
  have A4 := Lib.hid (A3.out.kept hb4)
  have B4 := Lib.hid (B3.out.trans (hb4.mono B3.out.size))
  clear hb4 A3 B3
  go_wp2_with fail
  refine (write_low A4.out (n % 256) rfl (by omega) (by omega)).mono ?_
  rintro e w5 ⟨rfl, a', u'⟩
  have A5 := Lib.hid a'
  have B5 := Lib.hid (u'.out B4.out hg)
  clear a' u' A4 B4
  go_wp2_with fail
  refine (write_high A5.out (n / 256) (by show 0 ≤ n % 256; omega) (by show n % 256 ≤ 255; omega) (by omega) (by omega)).mono ?_
  rintro e w6 ⟨rfl, a', u'⟩
  have a'' : Po w6 g { Pt.zero with factor := a, product := m, quotient := b, dividend := n % 256 + n / 256 * 256 } := a'
  rw [show n % 256 + n / 256 * 256 = n by omega] at a''
  have A6 := Lib.hid a''
  have B6 := Lib.hid (u'.out B5.out hg)
  clear a' a'' u' A5 B5
  go_wp2_with fail
  refine (write_divide A6.out b n rfl n0 n1 b0 b1).mono ?_
  rintro e w7 ⟨rfl, a', u'⟩
  obtain ⟨q, hq⟩ : ∃ q, (if b = 0 then 65535 else n / b) = q := ⟨_, rfl⟩
  obtain ⟨r, hr⟩ : ∃ r, (if b = 0 then n else n % b) = r := ⟨_, rfl⟩
  have a'' : Po w7 g { Pt.zero with factor := a, dividend := n, quotient := if b = 0 then 65535 else n / b, product := if b = 0 then n else n % b } := a'
  rw [hq, hr] at a''
  have A7 := Lib.hid a''
  have B7 := Lib.hid (u'.out B6.out hg)
  have hfacts : 0 ≤ q ∧ q ≤ 65535 ∧ 0 ≤ r ∧ r ≤ 65535 := by
    rw [← hq, ← hr]
    by_cases h : b = 0
    · simp [h]; omega
    · have h1 : 0 ≤ n / b := Int.ediv_nonneg n0 b0
      have h2 : n / b ≤ n := Int.ediv_le_self b n0
      have h3 := Int.emod_nonneg n h
      have h4 := Int.emod_lt_of_pos n (show 0 < b by omega)
      simp [h]; omega
  obtain ⟨q0, q1, r0, r1⟩ := hfacts
  clear a' a'' u' A6 B6
  go_wp2_with fail
  refine (word_any A7.out 16916 q (Or.inl ⟨rfl, rfl⟩) q0 q1 r0 r1).mono ?_
  rintro e w8 ⟨rfl, hb8⟩
  have A8 := Lib.hid (A7.out.kept hb8)
  have B8 := Lib.hid (B7.out.trans (hb8.mono B7.out.size))
  clear hb8 A7 B7
  go_wp2_with fail
  refine (word_any A8.out 16918 r (Or.inr ⟨rfl, rfl⟩) q0 q1 r0 r1).mono ?_
  rintro e w9 ⟨rfl, hb9⟩
  have B9 := Lib.hid (B8.out.trans (hb9.mono B8.out.size))
  clear hb9 A8 B8
  by_cases h : b = 0
  · subst h
    simp only [if_true] at hq hr
    subst hq hr
    go_wp2_with fail
    refine (AW.out _).mono ?_
    rintro e wz ⟨rfl, hbz⟩
    have BZ := Lib.hid (B9.out.trans (hbz.mono B9.out.size))
    clear hbz
    go_wp2_with fail
    go_ret
    exact ⟨rfl, BZ.out⟩
  · simp only [h, if_false] at hq hr
    have t : (b == 0) = false := by simpa using h
    have h3 := Int.emod_nonneg n h
    have h4 := Int.emod_lt_of_pos n (show 0 < b by omega)
    have h5 : q * b + r = n := by rw [← hq, ← hr, Int.mul_comm]; exact Int.mul_ediv_add_emod n b
    rw [hr] at h3 h4
    obtain ⟨k, hk⟩ : ∃ k, q * b = k := ⟨_, rfl⟩
    rw [hk] at h5
    have k0 : 0 ≤ k := by rw [← hk]; exact Int.mul_nonneg q0 b0
    have k1 : k ≤ 65535 := by omega
    clear hq hr hm
    go_wp2_with fail
    refine (AW.out _).mono ?_
    rintro e wz ⟨rfl, hbz⟩
    have BZ := Lib.hid (B9.out.trans (hbz.mono B9.out.size))
    clear hbz
    go_wp2_with fail
    go_ret
    exact ⟨rfl, BZ.out⟩
open Go.ChangeShapes Go.WideShapes Go.ChangeAt
theorem walk (H : Type) (enc : TypeId × Value → H) (W : World) (base : Nat) (v0 v1 v2 : Value) {d0 d1 d2 : DataW H} {p0 p1 p2 : List MemPlace}
    (k0 : Value.okWide Try.prog W .any base 5 v0) (h0 : DataW.Trod enc Try.prog W 0 (fun _ => true) true 5 v0 d0 p0)
    (k1 : Value.okWide Try.prog W .any base 5 v1) (h1 : DataW.Trod enc Try.prog W 0 (fun _ => true) true 5 v1 d1 p1)
    (k2 : Value.okWide Try.prog W .any base 22 v2) (h2 : DataW.Trod enc Try.prog W 0 (fun _ => true) true 22 v2 d2 p2) :
    Calls Try.prog 3 #[v0, v1, v2] W fun e w' => e = .returned (.bool true) ∧ Below W.heap.size W w' := by
  obtain ⟨a, rfl, rfl, rfl, w0⟩ := open_int Try.underlying5 k0 h0
  have b0 := wf_u8 w0
  obtain ⟨b, rfl, rfl, rfl, w1⟩ := open_int Try.underlying5 k1 h1
  have b1 := wf_u8 w1
  obtain ⟨n, rfl, rfl, rfl, w2⟩ := open_int Try.underlying22 k2 h2
  have b2 := wf_u16 w2
  exact law a b n W b0.1 b0.2 b1.1 b1.2 b2.1 b2.2
end Go.Proofs.Ytniagcbajjmopaa.portsMath
