/- save: slices.Concat of pieces. -/
import Derived.Test.YtniagcbajjmopaaGreatSaveG
namespace Go.Proofs.YtniagcbajjmopaaGreat
open Go.RowKit
set_option linter.unusedVariables false
set_option linter.unusedSimpArgs false
set_option maxRecDepth 100000

/-- A piece that is not nil. -/
def Pc (w : World) (v : Value) (bs : List Int) : Prop := ∃ g off c, v = .slice (some ⟨g, off, none⟩) bs.length c ∧ ∀ j u, bs[j]? = some u → w.cell? ⟨g, off + j, none⟩ = some (.int .u8 u)
theorem SRow.pc {w : World} {base : Nat} {v : Value} {bs : List Int} (h : SRow w base v bs) (n : bs ≠ []) : Pc w v bs := by
  obtain ⟨g, c, rfl, _, hc⟩ := h.at n
  exact ⟨g, 0, c, rfl, fun j u hj => by rw [Nat.zero_add]; exact hc j u hj⟩
theorem Pc.kept {w w' : World} {v : Value} {bs : List Int} (h : Pc w v bs) (hb : Below w.heap.size w w') : Pc w' v bs := by
  obtain ⟨g, off, c, rfl, hc⟩ := h
  exact ⟨g, off, c, rfl, fun j u hj => keepC hb (hc j u hj)⟩
theorem flat_take (bss : List (List Int)) (k : Nat) (bs : List Int) (h : bss[k]? = some bs) : (bss.take (k + 1)).flatten = (bss.take k).flatten ++ bs := by
  obtain ⟨hi, rfl⟩ := List.getElem?_eq_some_iff.mp h
  rw [List.take_succ_eq_append_getElem hi, List.flatten_append]; simp
theorem flat_le (bss : List (List Int)) (k : Nat) : (bss.take k).flatten.length ≤ bss.flatten.length := by
  rw [show bss.flatten = (bss.take k).flatten ++ (bss.drop k).flatten by rw [← List.flatten_append, List.take_append_drop], List.length_append]; omega
theorem sa_add (b off j : Nat) : (⟨b, off, none⟩ : Addr).add j = ⟨b, off + j, none⟩ := by by_cases j0 : j = 0 <;> simp [Addr.add, j0]
theorem pcNews {w : World} {g off : Nat} {bs : List Int} (hc : ∀ j u, bs[j]? = some u → w.cell? ⟨g, off + j, none⟩ = some (.int .u8 u)) : ∀ j u, (bs.map (Value.int .u8))[j]? = some u → w.cell? ((⟨g, off, none⟩ : Addr).add j) = some u := by
  intro j u hj
  rw [List.getElem?_map] at hj
  obtain ⟨x, hx, rfl⟩ := Option.map_eq_some_iff.mp hj
  rw [sa_add]
  exact hc j x hx
theorem oneNews (bs : List Int) : ∀ u ∈ bs.map (Value.int .u8), u.oneCell' = true := by
  intro u hu
  obtain ⟨x, _, rfl⟩ := List.mem_map.mp hu
  rfl
theorem srowMore {w : World} {base : Nat} {v : Value} {xs bs : List Int} {d : Nat} (hd : bs.length = d) (h : w.ownsRow base 5 1 v (xs.length + d) (xs.map (Value.int .u8) ++ bs.map (Value.int .u8))) : SRow w base v (xs ++ bs) := by
  subst hd
  exact SRow.more h
set_option maxHeartbeats 4000000 in
theorem concat_any (b c : Nat) (pvs : List Value) (bss : List (List Int)) (w : World) (hl : pvs.length = bss.length) (hm : pvs.length ≤ 8)
    (hc : ∀ (k : Nat) (pv : Value), pvs[k]? = some pv → w.cell? ⟨b, k, none⟩ = some pv) (hp : ∀ (k : Nat) (pv : Value) (bs : List Int), pvs[k]? = some pv → bss[k]? = some bs → Pc w pv bs) (h0 : 0 < bss.flatten.length) (h1 : bss.flatten.length ≤ 1048576) :
    Calls Tryz.prog 72 #[.slice (some ⟨b, 0, none⟩) pvs.length c] w (fun e w' => ∃ bv, e = .returned bv ∧ SRow w' w.heap.size bv bss.flatten ∧ Below w.heap.size w w') := by
  obtain ⟨i0, hi, hz0, hz1, hz2⟩ := info_parts saU8
  have HC := Lib.hid hc
  have HP := Lib.hid hp
  obtain ⟨m, hmm⟩ : ∃ m, pvs.length = m := ⟨_, rfl⟩
  have HM := Lib.hid hmm
  have HL := Lib.hid hl
  rw [hmm] at hm ⊢
  obtain ⟨F, hF⟩ : ∃ F, bss.flatten = F := ⟨_, rfl⟩
  have HF := Lib.hid hF
  rw [hF] at h0 h1 ⊢
  have hle : ∀ k, (bss.take k).flatten.length ≤ F.length := fun k => by rw [← hF]; exact flat_le bss k
  have HLE := Lib.hid hle
  obtain ⟨fl, hfl⟩ : ∃ fl, F.length = fl := ⟨_, rfl⟩
  have HFL := Lib.hid hfl
  rw [hfl] at h0 h1
  clear hc hp hl hmm hF hle hfl
  go_enter Tryz.func72, Tryz.ntmps72
  go_wp2_with fail
  go_loopw [3, 11] (fun s i wr => ∃ k : Nat, k ≤ m ∧ i = .int .i64 k ∧ s = .int .i64 ((bss.take k).flatten.length : Nat) ∧ wr = w) (fun _ i _ => m - (intOf i).toNat)
  case atStart => exact ⟨0, by omega, rfl, by simp, rfl⟩
  case round =>
    obtain ⟨k, hk, rfl, rfl, rfl⟩ := hrel
    by_cases hlt : k < m
    · have hx : pvs[k]? = some (pvs[k]'(by rw [HM.out]; exact hlt)) := by simp
      have hy : bss[k]? = some (bss[k]'(by rw [← HL.out, HM.out]; exact hlt)) := by simp
      obtain ⟨pv, hpv⟩ : ∃ pv, pvs[k]'(by rw [HM.out]; exact hlt) = pv := ⟨_, rfl⟩
      obtain ⟨bs, hbs⟩ : ∃ bs, bss[k]'(by rw [← HL.out, HM.out]; exact hlt) = bs := ⟨_, rfl⟩
      rw [hpv] at hx
      rw [hbs] at hy
      have q0 := HC.out k pv hx
      obtain ⟨g, off, cp, rfl, _⟩ := HP.out k pv bs hx hy
      have e1 := flat_take bss k bs hy
      have l1 := HLE.out (k + 1)
      rw [HFL.out] at l1
      rw [e1, List.length_append] at l1
      have E1 := Lib.hid (show ((bss.take (k + 1)).flatten.length : Int) = ((bss.take k).flatten.length : Int) + bs.length by rw [e1, List.length_append]; simp)
      obtain ⟨a, ha⟩ : ∃ a, (bss.take k).flatten.length = a := ⟨_, rfl⟩
      rw [ha] at l1 E1 ⊢
      obtain ⟨d, hd⟩ : ∃ d, bs.length = d := ⟨_, rfl⟩
      rw [hd] at q0 l1 E1
      clear hx hy hpv hbs e1 ha hd
      go_wp2_with fail
      go_roundw
      case rel => exact ⟨k + 1, by omega, by go_num, by rw [E1.out]; try go_num, by first | rfl | trivial⟩
      case measure => simp [intOf]; omega
    · have hkm : k = m := by omega
      subst hkm
      have e1 : (bss.take k).flatten.length = fl := by
        rw [List.take_of_length_le (by rw [← HL.out, HM.out]; exact Nat.le_refl _), HF.out, HFL.out]
      rw [e1]
      clear e1
      obtain ⟨w0, rfl⟩ : ∃ w0 : World, w0 = wr := ⟨_, rfl⟩
      go_wp2_with fail
      refine (grow_nil fl w0 h0 (by omega)).mono ?_
      rintro e w1 ⟨bv, rfl, r', b'⟩
      have R1 := Lib.hid r'
      have B1 := Lib.hid b'
      clear r' b'
      go_wp2_with fail
      go_loopw [6, 27] (fun s i wr2 => ∃ q : Nat, q ≤ k ∧ i = .int .i64 q ∧ SRow wr2 w0.heap.size s (bss.take q).flatten ∧ Below w0.heap.size w0 wr2) (fun _ i _ => k - (intOf i).toNat)
      case atStart => exact ⟨0, by omega, rfl, by simpa using R1.out, B1.out⟩
      case round =>
        obtain ⟨q, hq, rfl, r', b'⟩ := hrel
        have R2 := Lib.hid r'
        have B2 := Lib.hid b'
        clear r' b' R1 B1
        by_cases hlq : q < k
        · have hx : pvs[q]? = some (pvs[q]'(by rw [HM.out]; exact hlq)) := by simp
          have hy : bss[q]? = some (bss[q]'(by rw [← HL.out, HM.out]; exact hlq)) := by simp
          obtain ⟨pv, hpv⟩ : ∃ pv, pvs[q]'(by rw [HM.out]; exact hlq) = pv := ⟨_, rfl⟩
          obtain ⟨bs, hbs⟩ : ∃ bs, bss[q]'(by rw [← HL.out, HM.out]; exact hlq) = bs := ⟨_, rfl⟩
          rw [hpv] at hx
          rw [hbs] at hy
          have q0 := keepC B2.out (HC.out q pv hx)
          obtain ⟨g, off, cp, rfl, hcell⟩ := (HP.out q pv bs hx hy).kept B2.out
          have E1 := Lib.hid (flat_take bss q bs hy)
          have l1 := HLE.out (q + 1)
          rw [HFL.out, E1.out, List.length_append] at l1
          have own := R2.out
          unfold SRow at own
          obtain ⟨X, hX⟩ : ∃ X, (bss.take q).flatten = X := ⟨_, rfl⟩
          rw [hX] at own l1 E1
          have HNW : Hid (∀ j u, (bs.map (Value.int .u8))[j]? = some u → wr.cell? ((⟨g, off, none⟩ : Addr).add j) = some u) := Lib.hid (pcNews hcell)
          have H1C : Hid (∀ u ∈ bs.map (Value.int .u8), u.oneCell' = true) := Lib.hid (oneNews bs)
          obtain ⟨d, hd⟩ : ∃ d, bs.length = d := ⟨_, rfl⟩
          have HD := Lib.hid hd
          rw [hd] at q0 l1
          have HL3 : Hid ((bs.map (Value.int .u8)).length = d * 1) := Lib.hid (by rw [List.length_map, hd, Nat.mul_one])
          have hsz := B2.out.size
          clear hx hy hpv hbs hX hcell hd
          go_wp2_with (first
            | (at_builtin; refine wpList_append_own_at _ rfl _ _ 40 rfl w0.heap.size 5 i0 (.int .u8 0) 1 1 Tryz.underlying40 hi hz0 hz1 hz2 rfl (by decide) _ X.length _ rfl own ⟨g, off, none⟩ d cp (bs.map (Value.int .u8)) rfl HL3.out HNW.out H1C.out (by unfold maxLen; omega) (by omega) hsz ?_; intro v1 w1 own1 hg1 hnil1 hat1))
          have R3 := Lib.hid (srowMore HD.out own1)
          have B3 := Lib.hid (B2.out.grown hg1 hsz (fun k e => own_base' own e))
          clear own own1 hg1 hnil1 hat1
          go_roundw
          case rel => exact ⟨q + 1, by omega, by go_num, by rw [E1.out]; exact R3.out, B3.out⟩
          case measure => simp [intOf]; omega
        · have hqk : q = k := by omega
          subst hqk
          have e1 : (bss.take q).flatten = F := by
            rw [List.take_of_length_le (by rw [← HL.out, HM.out]; exact Nat.le_refl _), HF.out]
          rw [e1] at R2
          clear e1
          go_wp2_with fail
          go_ret
          exact ⟨_, rfl, R2.out, B2.out⟩
end Go.Proofs.YtniagcbajjmopaaGreat
