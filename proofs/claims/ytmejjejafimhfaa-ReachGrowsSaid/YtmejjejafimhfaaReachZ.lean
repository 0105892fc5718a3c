/- The modes: indexed, direct, stack. -/
import Derived.Test.YtmejjejafimhfaaReachY
import Derived.Test.YtmejjejafimhfaaReachN
namespace Go.Proofs.Ytmejjejafimhfaa
open Go.RowKit
set_option linter.unusedVariables false
set_option linter.unusedSimpArgs false

abbrev codeV (c : Int) (nm : ByteArray) (m u wd : Int) : Value := .agg #[.int .u8 c, .string nm, .int .u8 m, .int .u8 u, .int .u8 wd]
def mIndexed (use a i : Int) (s : St) : Int × St := let x := (a + i) % 16777216; (x, if use = 2 ∨ 3 ≤ use ∨ s.r.p / 16 % 2 = 0 ∨ a / 256 ≠ x / 256 then mIdle s else s)

set_option maxHeartbeats 2000000 in
theorem indexed_m (c m u wd a i : Int) (nm : ByteArray) (g : Nat) (s : St) (w : World) (h : In w g s) (a0 : 0 ≤ a) (a1 : a ≤ 16777215) (i0 : 0 ≤ i) (i1 : i ≤ 65535) (u0 : 0 ≤ u) :
    Calls Try.prog 27 #[.pointer (some ⟨g, 0, none⟩), codeV c nm m u wd, .int .u32 a, .int .u16 i] w (Ret w g (placeV (mIndexed u a i s).1 false) (mIndexed u a i s).2) := by
  obtain ⟨_, _, _, _, _, _, _, _, _, _, _, _, _, _, _, _, p0, p1⟩ := h.ok
  obtain ⟨_, _, _, _, _, _, _, _, c8, _⟩ := h.regs
  have lg := h.lt
  have e1 := and24_32 (a + i) (by omega) (by omega)
  have e2 := and16_8 s.r.p p0 p1
  obtain ⟨x, hx⟩ : ∃ x, (a + i) % 16777216 = x := ⟨_, rfl⟩
  rw [hx] at e1
  have x0 : 0 ≤ x := by omega
  have x1 : x ≤ 16777215 := by omega
  have H := Lib.hid h
  by_cases cc : u = 2 ∨ 3 ≤ u ∨ s.r.p / 16 % 2 = 0 ∨ a / 256 ≠ x / 256
  · have hm : mIndexed u a i s = (x, mIdle s) := by simp only [mIndexed, hx]; rw [if_pos cc]
    rw [hm]
    have hc : ((u == 2) = true) ∨ ((u == 2) = false ∧ 3 ≤ u) ∨ ((u == 2) = false ∧ u < 3 ∧ (s.r.p / 16 % 2 * 16 == 0) = true) ∨ ((u == 2) = false ∧ u < 3 ∧ (s.r.p / 16 % 2 * 16 == 0) = false ∧ (a / 256 != x / 256) = true) := by
      simp only [beq_iff_eq, beq_eq_false_iff_ne, ne_eq, bne_iff_ne]
      by_cases k1 : u = 2
      · exact Or.inl k1
      by_cases k2 : 3 ≤ u
      · exact Or.inr (Or.inl ⟨k1, k2⟩)
      by_cases k3 : s.r.p / 16 % 2 * 16 = 0
      · exact Or.inr (Or.inr (Or.inl ⟨k1, by omega, k3⟩))
      · exact Or.inr (Or.inr (Or.inr ⟨k1, by omega, k3, (cc.resolve_left k1).resolve_left k2 |>.resolve_left (fun q => k3 (by omega))⟩))
    clear cc hm hx h
    rcases hc with k1 | ⟨k1, k2⟩ | ⟨k1, k2, k3⟩ | ⟨k1, k2, k3, k4⟩
    all_goals
      go_enter Try.func27, Try.ntmps27
      go_wp2_with fail
      obtain ⟨W1, hW⟩ : ∃ W1, W1 = (w.alloc (.cells #[.int .u8 c, .string nm, .int .u8 m, .int .u8 u, .int .u8 wd] 23)).alloc (.cells #[.int .u32 0, .bool false] 31) := ⟨_, rfl⟩
      obtain ⟨B1, hB⟩ : ∃ B1, B1 = w.heap.size + 1 := ⟨_, rfl⟩
      have kb : Below w.heap.size w W1 := by rw [hW]; exact belowA (belowA (Below.refl _ _) _) _
      have rb : Blk W1 B1 31 #[.int .u32 0, .bool false] := by
        have := Blk.new (w.alloc (.cells #[.int .u8 c, .string nm, .int .u8 m, .int .u8 u, .int .u8 wd] 23)) 31 #[.int .u32 0, .bool false]
        rw [hW, hB]; simpa using this
      rw [← hW, ← hB]
      have hgB : g < B1 := by omega
      have hwB : w.heap.size ≤ B1 := by omega
      have U0 := Lib.hid (Upd.ofBelow kb g)
      have H1 := Lib.hid (H.out.upd kb)
      clear hW hB kb
      refine (idle_m g s _ H1.out).mono ?_
      rintro e w1 ⟨rfl, k1, u1⟩
      have rb1 := u1.blk rb (by omega)
      have z0 : w1.cell? ⟨B1, 0, none⟩ = some (.int .u32 0) := rb1.cell 0
      have z1 : w1.cell? ⟨B1, 1, none⟩ = some (.bool false) := rb1.cell 1
      have f0 := rb1.frozen 0
      have f1 := rb1.frozen 1
      have K1 := Lib.hid k1
      have U1 := Lib.hid (U0.out.trans u1)
      clear rb rb1 k1 u1
      go_wp2_with fail
      exact bodyPost_ret (v := placeV x false) (by simp [results, Try.results27, go_sem, z0, z1]) rfl ⟨rfl, (K1.out.upd2 (p := ⟨B1, 0, none⟩) hgB _).upd2 (p := ⟨B1, 1, none⟩) hgB _, (U1.out.newer (p := ⟨B1, 0, none⟩) hwB _).newer (p := ⟨B1, 1, none⟩) hwB _⟩
  · have hm : mIndexed u a i s = (x, s) := by simp only [mIndexed, hx]; rw [if_neg cc]
    rw [hm]
    have hc : (u == 2) = false ∧ u < 3 ∧ (s.r.p / 16 % 2 * 16 == 0) = false ∧ (a / 256 != x / 256) = false := by
      refine ⟨by simp; exact fun q => cc (Or.inl q), ?_, ?_, ?_⟩
      · rcases Int.lt_or_le u 3 with q | q
        · exact q
        · exact absurd (Or.inr (Or.inl q)) cc
      · simp only [beq_eq_false_iff_ne, ne_eq]
        exact fun q => cc (Or.inr (Or.inr (Or.inl (by omega))))
      · simp only [bne_eq_false_iff_eq]
        by_cases q : a / 256 = x / 256
        · exact q
        · exact absurd (Or.inr (Or.inr (Or.inr q))) cc
    obtain ⟨k1, k2, k3, k4⟩ := hc
    clear cc hm hx h
    go_enter Try.func27, Try.ntmps27
    go_wp2_with fail
    exact bodyPost_ret (v := placeV x false) (by simp [results, Try.results27, go_sem]) rfl ⟨rfl, H.out.upd (by repeat (first | exact Below.refl _ _ | apply belowD | apply belowA)), Upd.ofBelow (by repeat (first | exact Below.refl _ _ | apply belowD | apply belowA)) g⟩
end Go.Proofs.Ytmejjejafimhfaa
