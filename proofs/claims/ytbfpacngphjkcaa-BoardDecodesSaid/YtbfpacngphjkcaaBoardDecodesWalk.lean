/- The walk of the law BoardDecodes. -/
import Derived.Test.YtbfpacngphjkcaaBoardO
import Derived.Test.YtbfpacngphjkcaaBoardS
namespace Go.Proofs.Ytbfpacngphjkcaa.boardDecodes
open Go.RowKit Go.ChangeShapes
set_option linter.unusedVariables false
set_option linter.unusedSimpArgs false

theorem wrap_u32 (n : Int) : 0 ≤ IntKind.u32.wrap n ∧ IntKind.u32.wrap n ≤ 4294967295 := by
  rw [IntKind.wrap_u32]; omega

set_option maxRecDepth 100000 in
set_option maxHeartbeats 1000000 in
theorem law (lay rom ram by_ x m : Int) (w : World) (x0 : 0 ≤ x) (x1 : x ≤ 4294967295) (l0 : 0 ≤ lay) (l1 : lay ≤ 255) (y0 : 0 ≤ by_) (y1 : by_ ≤ 255) (r0 : -9223372036854775808 ≤ rom) (r1 : rom ≤ 9223372036854775807) :
    Calls Try.prog 5 #[planV lay rom ram by_, .int .u32 x, .int .i64 m] w fun e w' => e = .returned (.bool true) ∧ Below w.heap.size w w' := by
  go_enter Try.func5, Try.ntmps5
  try simp only [List.append_eq, List.cons_append, List.nil_append]
  go_wp2_with fail
  refine (made_any lay rom ram by_ _ l0 l1 y0 y1 r0 r1).mono ?_
  have hle := romN_le rom
  obtain ⟨n, hn⟩ : ∃ n, romN rom = n := ⟨_, rfl⟩
  rw [hn] at hle ⊢
  have HN := Lib.hid hn
  clear hn
  obtain ⟨W1, hW⟩ : ∃ W1, W1 = w.alloc (.cells #[.int .u8 lay, .int .i64 rom, .int .i64 ram, .int .u8 by_] 23) := ⟨_, rfl⟩
  obtain ⟨B, hB⟩ : ∃ B, B = w.heap.size := ⟨_, rfl⟩
  have c0 : W1.cell? ⟨B, 0, none⟩ = some (.int .u8 lay) := by rw [hW, hB]; simp [go_sem]
  have c2 : W1.cell? ⟨B, 2, none⟩ = some (.int .i64 ram) := by rw [hW, hB]; simp [go_sem]
  have cb : Below w.heap.size w W1 := by rw [hW]; exact belowA (Below.refl _ _) _
  rw [← hW, ← hB]
  rintro e w2 (⟨can, gb, gr, gm, ga, gc, cap, g0, f, rfl, bd, a0, hg0, hne, hb⟩ | ⟨can, g0, rfl, hb⟩)
  · unfold canB at can
    obtain ⟨b1, b2, b3, b4, b5, b6⟩ := of_decide_eq_true can
    obtain ⟨r, rfl⟩ := Int.eq_ofNat_of_zero_le b5
    rw [Int.toNat_natCast] at bd
    have D0 := Lib.hid (keepC hb c0)
    have D2 := Lib.hid (keepC hb c2)
    have HB := Lib.hid (belowStep cb hb)
    have BD := Lib.hid bd
    clear can bd a0 hb c0 c2 cb hW hB b5
    go_wp2_with fail
    go_loopw [1, 10] (fun s i wr => ∃ (k : Nat) (y : Int), i = .int .i64 k ∧ k ≤ 3000 ∧ s = .int .u32 y ∧ 0 ≤ y ∧ y ≤ 4294967295 ∧ Below w2.heap.size w2 wr) (fun _ i _ => 3000 - (intOf i).toNat)
    case atStart => exact ⟨0, x, rfl, by omega, rfl, x0, x1, Below.refl _ _⟩
    case round =>
      obtain ⟨k, y, rfl, hk, rfl, yl, yh, hbw⟩ := hrel
      have e0 := keepC hbw D0.out
      have e2 := keepC hbw D2.out
      have hBlt : B < wr.heap.size := World.block_lt_of_cell? _ _ e0
      have BD3 := Lib.hid (BD.out.kept hbw)
      have HBW := Lib.hid hbw
      clear hbw
      by_cases hlt : (k : Int) < m ∧ k < 3000
      · obtain ⟨h1, h2⟩ := hlt
        have q1 : decide ((k : Int) < m) = true := decide_eq_true h1
        have d1 : ∀ z, Calls Try.prog 19 #[.pointer (some ⟨gb, 0, none⟩), .int .u32 y] (moreOf wr z) _ := fun z => dec_any y lay gb gr gm ga gc n cap r _ (BD3.out.kept (below_more z)).cells yl yh (by omega) b3 b4
        have d2 : ∀ z, Calls Try.prog 20 #[.int .u8 lay, .int .i64 n, .int .i64 r, .int .u32 y] (moreOf wr z) _ := fun z => rdec_any y lay n r _ yl yh (by omega) b3 b4
        obtain ⟨s, hs⟩ : ∃ s, spot lay n r (y / 65536 % 256) (y % 65536) = s := ⟨_, rfl⟩
        simp only [hs] at d1 d2
        have HD1 := Lib.hid d1
        have HD2 := Lib.hid d2
        clear d1 d2 hs
        go_wp2_with fail
        refine wp_region_more (by kernel_rfl) (by kernel_rfl) ?_
        repeat (go_big_quiet_step ((first | (go_at_call 19; exact quiet_more (HD1.out _)) | (go_at_call 20; exact quiet_more (HD2.out _)))))
        refine wpQuiet_nil ?_
        rintro _ ⟨nq, rfl⟩
        go_wp2_with fail
        have hwr := wrap_u32 (y + 97)
        go_roundw
        case rel => exact ⟨k + 1, IntKind.u32.wrap (y + 97), by go_num, by omega, rfl, hwr.1, hwr.2, belowM HBW.out _⟩
        case measure => simp [intOf]; omega
      · clear e0 e2
        by_cases h1 : (k : Int) < m
        · have q2 : ¬ ((k : Int) < 3000) := fun h => hlt ⟨h1, by omega⟩
          clear hlt
          go_wp2_with fail
          go_ret
          exact ⟨rfl, belowStep HB.out HBW.out⟩
        · clear hlt
          go_wp2_with fail
          go_ret
          exact ⟨rfl, belowStep HB.out HBW.out⟩
  · have HB := Lib.hid (belowStep cb hb)
    clear can hb c0 c2 cb hW hB
    go_wp2_with fail
    go_ret
    exact ⟨rfl, HB.out⟩

open Go.WideShapes Go.ChangeAt in
set_option maxRecDepth 100000 in
theorem walk (H : Type) (enc : TypeId × Value → H) (W : World) (base : Nat) (v0 v1 v2 : Value) {d0 d1 d2 : DataW H} {p0 p1 p2 : List MemPlace} (k0 : Value.okWide Try.prog W .any base 23 v0) (h0 : DataW.Trod enc Try.prog W 0 (fun _ => true) true 23 v0 d0 p0)
    (k1 : Value.okWide Try.prog W .any base 35 v1) (h1 : DataW.Trod enc Try.prog W 0 (fun _ => true) true 35 v1 d1 p1) (k2 : Value.okWide Try.prog W .any base 3 v2) (h2 : DataW.Trod enc Try.prog W 0 (fun _ => true) true 3 v2 d2 p2) :
    Calls Try.prog 5 #[v0, v1, v2] W fun e w' => e = .returned (.bool true) ∧ Below W.heap.size W w' := by
  obtain ⟨lay, rom, ram, by_, rfl, l0, l1, y0, y1, r0, r1, _, _⟩ := openPlan k0 h0
  obtain ⟨x, rfl, rfl, rfl, hx⟩ := open_int Try.underlying35 k1 h1
  obtain ⟨m, rfl, rfl, rfl, _⟩ := open_int Try.underlying3 k2 h2
  exact law lay rom ram by_ x m W (wf_u32 hx).1 (wf_u32 hx).2 l0 l1 y0 y1 r0 r1
end Go.Proofs.Ytbfpacngphjkcaa.boardDecodes
