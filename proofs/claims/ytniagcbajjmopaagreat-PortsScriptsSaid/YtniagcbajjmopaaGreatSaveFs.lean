/- save: Word save: Number save: Byte save: Flag -/
import Derived.Test.YtniagcbajjmopaaGreatSaveF
import Derived.Test.YtniagcbajjmopaaGreatSaveLs
namespace Go.Proofs.YtniagcbajjmopaaGreat
open Go.RowKit Go.Shelf
set_option linter.unusedVariables false
set_option linter.unusedSimpArgs false
set_option maxRecDepth 100000
section
variable {w : World} {g : Nat} {bv : Value} {bs : List Int}

set_option maxHeartbeats 4000000 in
theorem wordC (H : Wr w g bv bs) (b0 b1 : Nat) (v : Int) (c0 : w.cell? ⟨b0, 0, none⟩ = some (wrP' g)) (c1 : w.cell? ⟨b1, 0, none⟩ = some (.int .u16 v)) (v0 : 0 ≤ v) (v1 : v ≤ 65535) (hl : bs.length ≤ 1048576) :
    Calls Tryz.prog 81 #[.pointer (some ⟨b0, 0, none⟩), .pointer (some ⟨b1, 0, none⟩)] w (PutP w g bv (bs ++ le 2 v)) := by
  have HH := Lib.hid H
  have C0 := Lib.hid c0
  have C1 := Lib.hid c1
  clear H c0 c1
  go_enter Tryz.func81, Tryz.ntmps81
  go_upto_region 0 with (fail)
  refine wp_region_tail 4 _ rfl rfl rfl (by kernel_rfl) (by kernel_rfl) (by kernel_rfl) (C := fun w' => Below w.heap.size w w') (S := pcS g w.heap.size (.int .u16 v) (le 2 v)) (Ev := evSv) pcS_mono ?_ ?_ ?_
  · exact belowD (Below.refl _ _)
  · simp only [List.take_succ_cons, List.take_zero, stepsOf]
    refine ⟨fun us w' hw hd => stepOf_plain rfl ?_, fun us w' hw hd => stepOf_plain rfl ?_, fun us w' hw hd => stepOf_plain rfl ?_, fun us w' hw hd => stepOf_plain rfl ?_, trivial⟩
    all_goals simp only [fill, List.filterMap_cons, List.filterMap_nil]
    · have c := keepC hw C0.out
      go_simp
      exact ⟨_, rfl, hw, rfl, Below.refl _ _⟩
    · have c := keepC hw C1.out
      go_simp
      exact ⟨_, rfl, hw, rfl, Below.refl _ _⟩
    · have h : us 3 = .int .u16 v := hd.1 rfl
      go_simp
      refine (laid16_any v 2 _ v0 v1 (by omega)).mono ?_
      rintro e w2 ⟨pv, rfl, hr, hb⟩
      exact ⟨_, rfl, hw.trans (hb.mono hw.size), hr.weak hw.size, hb⟩
    · have h : Laid w.heap.size (le 2 v) (us 4) w' := hd.1 rfl
      obtain ⟨x, hx⟩ : ∃ x, us 4 = x := ⟨_, rfl⟩
      rw [hx] at h
      obtain ⟨ao, c, rfl⟩ := SRow.slice h
      have HL := Lib.hid h
      clear h
      go_simp
      exact ⟨_, rfl, belowA hw _, Row1.new HL.out _, belowA (Below.refl _ _) _⟩
  · intro us w' hw ha
    simp only [fill, List.filterMap_cons, List.filterMap_nil]
    have h0 : us 2 = wrP' g := ha.1
    obtain ⟨x, hx⟩ : ∃ x, us 5 = x := ⟨_, rfl⟩
    have h3 : Row1 w.heap.size (le 2 v) (us 5) w' := ha.2.2.2.1
    rw [hx] at h3
    have H3 := Lib.hid h3
    clear h3 ha
    go_simp
    refine (put_one HH.out hw H3.out (by simp [le]) (by rw [le_len]; omega) hl).mono ?_
    rintro e w2 ⟨rfl, hp⟩
    have HP := Lib.hid hp
    clear hp
    go_wp2_with fail
    go_end0
    exact ⟨rfl, HP.out⟩
set_option maxHeartbeats 4000000 in
theorem word_any (H : Wr w g bv bs) (v : Int) (v0 : 0 ≤ v) (v1 : v ≤ 65535) (hl : bs.length ≤ 1048576) :
    Calls Tryz.prog 56 #[wrP' g, .int .u16 v] w (PutP w g bv (bs ++ le 2 v)) := by
  have HH := Lib.hid H
  clear H
  go_enter Tryz.func56, Tryz.ntmps56
  go_upto_region 1 with (fail)
  obtain ⟨W2, hW⟩ : ∃ W2, W2 = (w.alloc (.cells #[wrP' g] 67)).alloc (.cells #[.int .u16 v] 25) := ⟨_, rfl⟩
  obtain ⟨B, hB⟩ : ∃ B, B = w.heap.size := ⟨_, rfl⟩
  have k0 : W2.cell? ⟨B, 0, none⟩ = some (wrP' g) := by rw [hW, hB]; exact ((Blk.new _ _ _).alloc _).cell 0
  have k1 : W2.cell? ⟨B + 1, 0, none⟩ = some (.int .u16 v) := by
    rw [hW, hB]
    simp
  have cb : Below w.heap.size w W2 := by rw [hW]; exact belowA (belowA (Below.refl _ _) _) _
  rw [← hW, ← hB]
  have CB := Lib.hid cb
  have DD := Lib.hid (does_any (HH.out.kept cb) 81 #[.pointer (some ⟨B, 0, none⟩), .pointer (some ⟨B + 1, 0, none⟩)] (enters_of Tryz.func81 (by kernel_rfl) rfl) (wordC (HH.out.kept cb) B (B + 1) v k0 k1 v0 v1 hl))
  clear hW cb hB k1 HH
  go_wp2_with fail
  refine DD.out.mono ?_
  rintro e w2 ⟨rfl, hp⟩
  have HP : Hid (PutP W2 g bv (bs ++ le 2 v) (.returned (.tuple #[])) w2) := Lib.hid ⟨rfl, hp⟩
  clear hp
  go_wp2_with fail
  go_end0
  exact PutP.after CB.out HP.out

end
end Go.Proofs.YtniagcbajjmopaaGreat

namespace Go.Proofs.YtniagcbajjmopaaGreat
open Go.RowKit Go.Shelf
set_option linter.unusedVariables false
set_option linter.unusedSimpArgs false
set_option maxRecDepth 100000
section
variable {w : World} {g : Nat} {bv : Value} {bs : List Int}

set_option maxHeartbeats 4000000 in
theorem numberC (H : Wr w g bv bs) (b0 b1 : Nat) (v : Int) (c0 : w.cell? ⟨b0, 0, none⟩ = some (wrP' g)) (c1 : w.cell? ⟨b1, 0, none⟩ = some (.int .i64 v)) (hl : bs.length ≤ 1048576) :
    Calls Tryz.prog 78 #[.pointer (some ⟨b0, 0, none⟩), .pointer (some ⟨b1, 0, none⟩)] w (PutP w g bv (bs ++ le 8 (v % 18446744073709551616))) := by
  have HH := Lib.hid H
  have C0 := Lib.hid c0
  have C1 := Lib.hid c1
  have hwr : IntKind.u64.wrap v = v % 18446744073709551616 := by simp [IntKind.wrap, IntKind.bits, IntKind.signed]
  have v0 : 0 ≤ v % 18446744073709551616 := by omega
  have v1 : v % 18446744073709551616 ≤ 18446744073709551615 := by omega
  obtain ⟨u, hu⟩ : ∃ u, v % 18446744073709551616 = u := ⟨_, rfl⟩
  rw [hu] at hwr v0 v1 ⊢
  clear H c0 c1 hu
  have HW := Lib.hid hwr
  clear hwr
  go_enter Tryz.func78, Tryz.ntmps78
  go_upto_region 0 with (fail)
  refine wp_region_tail 5 _ rfl rfl rfl (by kernel_rfl) (by kernel_rfl) (by kernel_rfl) (C := fun w' => Below w.heap.size w w') (S := pcN g w.heap.size (.int .i64 v) (.int .u64 u) (le 8 u)) (Ev := evSv) pcN_mono ?_ ?_ ?_
  · exact belowD (Below.refl _ _)
  · simp only [List.take_succ_cons, List.take_zero, stepsOf]
    refine ⟨fun us w' hw hd => stepOf_plain rfl ?_, fun us w' hw hd => stepOf_plain rfl ?_, fun us w' hw hd => stepOf_plain rfl ?_, fun us w' hw hd => stepOf_plain rfl ?_, fun us w' hw hd => stepOf_plain rfl ?_, trivial⟩
    all_goals simp only [fill, List.filterMap_cons, List.filterMap_nil]
    · have c := keepC hw C0.out
      go_simp
      exact ⟨_, rfl, hw, rfl, Below.refl _ _⟩
    · have c := keepC hw C1.out
      go_simp
      exact ⟨_, rfl, hw, rfl, Below.refl _ _⟩
    · have h : us 3 = .int .i64 v := hd.1 rfl
      go_simp
      exact ⟨_, rfl, hw, by show _ = Value.int .u64 u; rw [← HW.out]; try rfl, Below.refl _ _⟩
    · have h : us 4 = .int .u64 u := hd.1 rfl
      go_simp
      refine (laid64_any u 8 _ v0 v1 (by omega)).mono ?_
      rintro e w2 ⟨pv, rfl, hr, hb⟩
      exact ⟨_, rfl, hw.trans (hb.mono hw.size), hr.weak hw.size, hb⟩
    · have h : Laid w.heap.size (le 8 u) (us 5) w' := hd.1 rfl
      obtain ⟨x, hx⟩ : ∃ x, us 5 = x := ⟨_, rfl⟩
      rw [hx] at h
      obtain ⟨ao, c, rfl⟩ := SRow.slice h
      have HL := Lib.hid h
      clear h
      go_simp
      exact ⟨_, rfl, belowA hw _, Row1.new HL.out _, belowA (Below.refl _ _) _⟩
  · intro us w' hw ha
    simp only [fill, List.filterMap_cons, List.filterMap_nil]
    have h0 : us 2 = wrP' g := ha.1
    obtain ⟨x, hx⟩ : ∃ x, us 6 = x := ⟨_, rfl⟩
    have h3 : Row1 w.heap.size (le 8 u) (us 6) w' := ha.2.2.2.2.1
    rw [hx] at h3
    have H3 := Lib.hid h3
    clear h3 ha
    go_simp
    refine (put_one HH.out hw H3.out (by simp [le]) (by rw [le_len]; omega) hl).mono ?_
    rintro e w2 ⟨rfl, hp⟩
    have HP := Lib.hid hp
    clear hp
    go_wp2_with fail
    go_end0
    exact ⟨rfl, HP.out⟩
set_option maxHeartbeats 4000000 in
theorem number_any (H : Wr w g bv bs) (v : Int) (hl : bs.length ≤ 1048576) :
    Calls Tryz.prog 55 #[wrP' g, .int .i64 v] w (PutP w g bv (bs ++ le 8 (v % 18446744073709551616))) := by
  have HH := Lib.hid H
  clear H
  go_enter Tryz.func55, Tryz.ntmps55
  go_upto_region 1 with (fail)
  obtain ⟨W2, hW⟩ : ∃ W2, W2 = (w.alloc (.cells #[wrP' g] 67)).alloc (.cells #[.int .i64 v] 2) := ⟨_, rfl⟩
  obtain ⟨B, hB⟩ : ∃ B, B = w.heap.size := ⟨_, rfl⟩
  have k0 : W2.cell? ⟨B, 0, none⟩ = some (wrP' g) := by rw [hW, hB]; exact ((Blk.new _ _ _).alloc _).cell 0
  have k1 : W2.cell? ⟨B + 1, 0, none⟩ = some (.int .i64 v) := by
    rw [hW, hB]
    simp
  have cb : Below w.heap.size w W2 := by rw [hW]; exact belowA (belowA (Below.refl _ _) _) _
  rw [← hW, ← hB]
  have CB := Lib.hid cb
  have DD := Lib.hid (does_any (HH.out.kept cb) 78 #[.pointer (some ⟨B, 0, none⟩), .pointer (some ⟨B + 1, 0, none⟩)] (enters_of Tryz.func78 (by kernel_rfl) rfl) (numberC (HH.out.kept cb) B (B + 1) v k0 k1 hl))
  clear hW cb hB k1 HH
  go_wp2_with fail
  refine DD.out.mono ?_
  rintro e w2 ⟨rfl, hp⟩
  have HP : Hid (PutP W2 g bv (bs ++ le 8 (v % 18446744073709551616)) (.returned (.tuple #[])) w2) := Lib.hid ⟨rfl, hp⟩
  clear hp
  go_wp2_with fail
  go_end0
  exact PutP.after CB.out HP.out


end
end Go.Proofs.YtniagcbajjmopaaGreat

namespace Go.Proofs.YtniagcbajjmopaaGreat
open Go.RowKit Go.Shelf
set_option linter.unusedVariables false
set_option linter.unusedSimpArgs false
set_option maxRecDepth 100000
section
variable {w : World} {g : Nat} {bv : Value} {bs : List Int}

set_option maxHeartbeats 4000000 in
theorem byteC (H : Wr w g bv bs) (b0 b1 : Nat) (v : Int) (c0 : w.cell? ⟨b0, 0, none⟩ = some (wrP' g)) (c1 : w.cell? ⟨b1, 0, none⟩ = some (.int .u8 v)) (v0 : 0 ≤ v) (v1 : v ≤ 255) (hl : bs.length ≤ 1048576) :
    Calls Tryz.prog 83 #[.pointer (some ⟨b0, 0, none⟩), .pointer (some ⟨b1, 0, none⟩)] w (PutP w g bv (bs ++ le 1 v)) := by
  have HH := Lib.hid H
  have C0 := Lib.hid c0
  have C1 := Lib.hid c1
  clear H c0 c1
  go_enter Tryz.func83, Tryz.ntmps83
  go_upto_region 0 with (fail)
  refine wp_region_tail 4 _ rfl rfl rfl (by kernel_rfl) (by kernel_rfl) (by kernel_rfl) (C := fun w' => Below w.heap.size w w') (S := pcS g w.heap.size (.int .u8 v) (le 1 v)) (Ev := evSv) pcS_mono ?_ ?_ ?_
  · exact belowD (Below.refl _ _)
  · simp only [List.take_succ_cons, List.take_zero, stepsOf]
    refine ⟨fun us w' hw hd => stepOf_plain rfl ?_, fun us w' hw hd => stepOf_plain rfl ?_, fun us w' hw hd => stepOf_plain rfl ?_, fun us w' hw hd => stepOf_plain rfl ?_, trivial⟩
    all_goals simp only [fill, List.filterMap_cons, List.filterMap_nil]
    · have c := keepC hw C0.out
      go_simp
      exact ⟨_, rfl, hw, rfl, Below.refl _ _⟩
    · have c := keepC hw C1.out
      go_simp
      exact ⟨_, rfl, hw, rfl, Below.refl _ _⟩
    · have h : us 3 = .int .u8 v := hd.1 rfl
      go_simp
      refine (laid8_any v 1 _ v0 v1 (by omega)).mono ?_
      rintro e w2 ⟨pv, rfl, hr, hb⟩
      exact ⟨_, rfl, hw.trans (hb.mono hw.size), hr.weak hw.size, hb⟩
    · have h : Laid w.heap.size (le 1 v) (us 4) w' := hd.1 rfl
      obtain ⟨x, hx⟩ : ∃ x, us 4 = x := ⟨_, rfl⟩
      rw [hx] at h
      obtain ⟨ao, c, rfl⟩ := SRow.slice h
      have HL := Lib.hid h
      clear h
      go_simp
      exact ⟨_, rfl, belowA hw _, Row1.new HL.out _, belowA (Below.refl _ _) _⟩
  · intro us w' hw ha
    simp only [fill, List.filterMap_cons, List.filterMap_nil]
    have h0 : us 2 = wrP' g := ha.1
    obtain ⟨x, hx⟩ : ∃ x, us 5 = x := ⟨_, rfl⟩
    have h3 : Row1 w.heap.size (le 1 v) (us 5) w' := ha.2.2.2.1
    rw [hx] at h3
    have H3 := Lib.hid h3
    clear h3 ha
    go_simp
    refine (put_one HH.out hw H3.out (by simp [le]) (by rw [le_len]; omega) hl).mono ?_
    rintro e w2 ⟨rfl, hp⟩
    have HP := Lib.hid hp
    clear hp
    go_wp2_with fail
    go_end0
    exact ⟨rfl, HP.out⟩
set_option maxHeartbeats 4000000 in
theorem byte_any (H : Wr w g bv bs) (v : Int) (v0 : 0 ≤ v) (v1 : v ≤ 255) (hl : bs.length ≤ 1048576) :
    Calls Tryz.prog 57 #[wrP' g, .int .u8 v] w (PutP w g bv (bs ++ le 1 v)) := by
  have HH := Lib.hid H
  clear H
  go_enter Tryz.func57, Tryz.ntmps57
  go_upto_region 1 with (fail)
  obtain ⟨W2, hW⟩ : ∃ W2, W2 = (w.alloc (.cells #[wrP' g] 67)).alloc (.cells #[.int .u8 v] 5) := ⟨_, rfl⟩
  obtain ⟨B, hB⟩ : ∃ B, B = w.heap.size := ⟨_, rfl⟩
  have k0 : W2.cell? ⟨B, 0, none⟩ = some (wrP' g) := by rw [hW, hB]; exact ((Blk.new _ _ _).alloc _).cell 0
  have k1 : W2.cell? ⟨B + 1, 0, none⟩ = some (.int .u8 v) := by
    rw [hW, hB]
    simp
  have cb : Below w.heap.size w W2 := by rw [hW]; exact belowA (belowA (Below.refl _ _) _) _
  rw [← hW, ← hB]
  have CB := Lib.hid cb
  have DD := Lib.hid (does_any (HH.out.kept cb) 83 #[.pointer (some ⟨B, 0, none⟩), .pointer (some ⟨B + 1, 0, none⟩)] (enters_of Tryz.func83 (by kernel_rfl) rfl) (byteC (HH.out.kept cb) B (B + 1) v k0 k1 v0 v1 hl))
  clear hW cb hB k1 HH
  go_wp2_with fail
  refine DD.out.mono ?_
  rintro e w2 ⟨rfl, hp⟩
  have HP : Hid (PutP W2 g bv (bs ++ le 1 v) (.returned (.tuple #[])) w2) := Lib.hid ⟨rfl, hp⟩
  clear hp
  go_wp2_with fail
  go_end0
  exact PutP.after CB.out HP.out

end
end Go.Proofs.YtniagcbajjmopaaGreat

namespace Go.Proofs.YtniagcbajjmopaaGreat
open Go.RowKit Go.Shelf
set_option linter.unusedVariables false
set_option linter.unusedSimpArgs false
set_option maxRecDepth 100000
section
variable {w : World} {g : Nat} {bv : Value} {bs : List Int}

set_option maxHeartbeats 4000000 in
theorem flag_any (H : Wr w g bv bs) (v : Bool) (hl : bs.length ≤ 1048576) :
    Calls Tryz.prog 58 #[wrP' g, .bool v] w (PutP w g bv (bs ++ le 1 (if v then 1 else 0))) := by
  have B0 := Lib.hid (byte_any H 0 (by omega) (by omega) hl)
  have B1 := Lib.hid (byte_any H 1 (by omega) (by omega) hl)
  clear H
  cases v
  · go_enter Tryz.func58, Tryz.ntmps58
    go_wp2_with fail
    refine B0.out.mono ?_
    rintro e w2 ⟨rfl, hp⟩
    have HP := Lib.hid hp
    clear hp
    go_wp2_with fail
    go_end0
    exact ⟨rfl, HP.out⟩
  · go_enter Tryz.func58, Tryz.ntmps58
    go_wp2_with fail
    refine B1.out.mono ?_
    rintro e w2 ⟨rfl, hp⟩
    have HP := Lib.hid hp
    clear hp
    go_wp2_with fail
    go_end0
    exact ⟨rfl, HP.out⟩


end
end Go.Proofs.YtniagcbajjmopaaGreat
