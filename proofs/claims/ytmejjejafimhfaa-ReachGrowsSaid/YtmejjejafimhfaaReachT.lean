/- Begin, Done, List. -/
import Derived.Test.YtmejjejafimhfaaReachM
namespace Go.Proofs.Ytmejjejafimhfaa
open Go.RowKit
set_option linter.unusedVariables false
set_option linter.unusedSimpArgs false

def setR (r : Rg) : Rg := ⟨r.a, setX r.x r.p r.e, setX r.y r.p r.e, setS r.s r.e, r.d, r.pc, r.b, r.k, setP r.p r.e, r.e⟩
abbrev rV (r : Rg) : Value := regsV r.a r.x r.y r.s r.d r.pc r.b r.k r.p r.e
theorem setR_ok (r : Rg) (h : r.ok) : (setR r).ok := by
  obtain ⟨a0, a1, x0, x1, y0, y1, s0, s1, d0, d1, c0, c1, b0, b1, k0, k1, p0, p1⟩ := h
  obtain ⟨q0, q1, _, _⟩ := orMX_is r.p p0 p1
  have hx : ∀ x p : Int, 0 ≤ x → x ≤ 65535 → 0 ≤ setX x p r.e ∧ setX x p r.e ≤ 65535 := by
    intro x p h0 h1; unfold setX; split <;> omega
  have hp : 0 ≤ setP r.p r.e ∧ setP r.p r.e ≤ 255 := by
    unfold setP; cases r.e
    · exact ⟨p0, p1⟩
    · exact ⟨q0, q1⟩
  have hs : 0 ≤ setS r.s r.e ∧ setS r.s r.e ≤ 65535 := by
    unfold setS; cases r.e
    · exact ⟨s0, s1⟩
    · show 0 ≤ 256 + r.s % 256 ∧ 256 + r.s % 256 ≤ 65535; omega
  exact ⟨a0, a1, (hx _ _ x0 x1).1, (hx _ _ x0 x1).2, (hx _ _ y0 y1).1, (hx _ _ y0 y1).2, hs.1, hs.2, d0, d1, c0, c1, b0, b1, k0, k1, hp.1, hp.2⟩
def putR (w : World) (g : Nat) (r : Rg) (sv : Value) : World := ((((((((((w.setCell ⟨g, 0, none⟩ (.int .u16 r.a)).setCell ⟨g, 1, none⟩ (.int .u16 r.x)).setCell ⟨g, 2, none⟩ (.int .u16 r.y)).setCell ⟨g, 3, none⟩ (.int .u16 r.s)).setCell ⟨g, 4, none⟩ (.int .u16 r.d)).setCell ⟨g, 5, none⟩ (.int .u16 r.pc)).setCell ⟨g, 6, none⟩ (.int .u8 r.b)).setCell ⟨g, 7, none⟩ (.int .u8 r.k)).setCell ⟨g, 8, none⟩ (.int .u8 r.p)).setCell ⟨g, 9, none⟩ (.bool r.e)).setCell ⟨g, 10, none⟩ sv
theorem Wk.putR {w : World} {g : Nat} {r0 : Rg} {sv0 : Value} (h : Wk w g r0 sv0 [] false) (r : Rg) (sv : Value) : Wk (putR w g r sv) g r sv [] false := by
  obtain ⟨⟨cs, hb, hs, h0, h1, h2, h3, h4, h5, h6, h7, h8, h9, h10, h47, h48, hL⟩, hl2⟩ := h
  refine ⟨⟨_, ((((((((((hb.set_ _ _).set_ _ _).set_ _ _).set_ _ _).set_ _ _).set_ _ _).set_ _ _).set_ _ _).set_ _ _).set_ _ _).set_ _ _, by simpa using hs, ?_⟩, hl2⟩
  refine ⟨?_, ?_, ?_, ?_, ?_, ?_, ?_, ?_, ?_, ?_, ?_, ?_, ?_, ?_⟩
  all_goals first
    | (intro i hi; exact absurd hi (by simp))
    | (simp only [get_set, Array.size_setIfInBounds, hs]; simp [h47, h48])
theorem Upd.putR {w0 w : World} {g : Nat} (h : Upd w0 g w) (r : Rg) (sv : Value) : Upd w0 g (putR w g r sv) := by
  unfold Go.Proofs.Ytmejjejafimhfaa.putR
  exact ((((((((((h.set _ _).set _ _).set _ _).set _ _).set _ _).set _ _).set _ _).set _ _).set _ _).set _ _).set _ _

set_option maxHeartbeats 400000 in
theorem begin_m (r r0 : Rg) (sv sv0 : Value) (bs : List Int) (g : Nat) (w : World) (h : Wk w g r0 sv0 [] false) (hs : Sn w g sv bs) (ok : r.ok) :
    Calls Try.prog 15 #[.pointer (some ⟨g, 0, none⟩), rV r, sv] w (Ret w g (.tuple #[]) ⟨setR r, bs, [], false⟩) := by
  have H := Lib.hid h
  have HS := Lib.hid hs
  have OK := Lib.hid (setR_ok r ok)
  obtain ⟨a0, a1, x0, x1, y0, y1, s0, s1, d0, d1, c0, c1, b0, b1, k0, k1, p0, p1⟩ := ok
  obtain ⟨ao, cc, e, hsl⟩ : ∃ ao cc, sv = .slice ao bs.length cc ∧ True := by
    obtain ⟨ao, c, e, _⟩ := hs.ex
    exact ⟨_, _, e, trivial⟩
  have lg := h.lt
  clear h hs hsl
  subst e
  obtain ⟨a, x, y, s, d, pc, b, k, p, e⟩ := r
  simp only at a0 a1 x0 x1 y0 y1 s0 s1 d0 d1 c0 c1 b0 b1 k0 k1 p0 p1
  go_enter Try.func15, Try.ntmps15
  go_wp2_with fail
  obtain ⟨W1, hW⟩ : ∃ W1, W1 = w.alloc (.cells #[.int .u16 a, .int .u16 x, .int .u16 y, .int .u16 s, .int .u16 d, .int .u16 pc, .int .u8 b, .int .u8 k, .int .u8 p, .bool e] 26) := ⟨_, rfl⟩
  rw [← hW]
  have hb : Below w.heap.size w W1 := by rw [hW]; exact belowA (Below.refl _ _) _
  clear hW
  refine (wsettle a x y s d pc b k p e _ x0 x1 y0 y1 s0 s1 p0 p1).mono ?_
  rintro q w1 ⟨rfl, hb1⟩
  have H0 := H.out.kept hb
  have H1 := H0.kept hb1
  have U1 := Lib.hid ((Upd.ofBelow hb g).below hb1)
  have S1 := Lib.hid (HS.out.kept U1.out)
  have HH1 := Lib.hid H1
  have f0 := H1.frozen 0
  have f1 := H1.frozen 1
  have f2 := H1.frozen 2
  have f3 := H1.frozen 3
  have f4 := H1.frozen 4
  have f5 := H1.frozen 5
  have f6 := H1.frozen 6
  have f7 := H1.frozen 7
  have f8 := H1.frozen 8
  have f9 := H1.frozen 9
  have f10 := H1.frozen 10
  obtain ⟨z0, z1, z2, z3, z4, z5, z6, z7, z8, z9⟩ := H1.regs
  have z10 := H1.seen
  clear H1 H0 hb hb1 H HS lg
  go_wp2_with fail
  go_end0
  have R : Ret w g (.tuple #[]) ⟨setR ⟨a, x, y, s, d, pc, b, k, p, e⟩, bs, [], false⟩ (.returned (.tuple #[])) (putR w1 g (setR ⟨a, x, y, s, d, pc, b, k, p, e⟩) (.slice ao bs.length cc)) := by
    generalize hr : setR ⟨a, x, y, s, d, pc, b, k, p, e⟩ = r1
    have k1 := HH1.out.putR r1 (.slice ao bs.length cc)
    have k2 := S1.out.kept ((Upd.refl w1 g).putR r1 (.slice ao bs.length cc))
    have k3 := U1.out.putR r1 (.slice ao bs.length cc)
    have k4 := OK.out
    rw [hr] at k4
    exact ⟨rfl, ⟨⟨_, k1, k2⟩, k4⟩, k3⟩
  simpa only [putR, setR] using R
theorem In.num {w : World} {g : Nat} {s : St} (h : In w g s) : w.cell? ⟨g, 47, none⟩ = some (.int .i64 s.L.length) ∧ s.L.length ≤ 12 := by
  obtain ⟨⟨sv, h1, _⟩, _⟩ := h; exact ⟨h1.num, h1.len⟩
theorem In.stuck {w : World} {g : Nat} {s : St} (h : In w g s) : w.cell? ⟨g, 48, none⟩ = some (.bool s.st) := by
  obtain ⟨⟨sv, h1, _⟩, _⟩ := h; exact h1.stuck
theorem done_m (g : Nat) (s : St) (w : World) (h : In w g s) :
    Calls Try.prog 17 #[.pointer (some ⟨g, 0, none⟩)] w fun e w' => e = .returned (.bool (!s.st)) ∧ w = w' := by
  have z := h.stuck
  clear h
  go_enter Try.func17, Try.ntmps17
  go_wp2_with fail
  go_ret
  exact ⟨rfl, rfl⟩
/-- The list of a walker in block g. -/
def listV (g : Nat) (L : List Acc) : Value := if L.length = 0 then .slice none 0 0 else .slice (some ⟨g, 11, none⟩) L.length L.length
theorem slice_list (g n : Nat) (w : World) (hl : n ≤ 12) (c : ¬n = 0) :
    (Instr.sliceAt 45 (.pointer (some ⟨g, 11, none⟩)) none (some (.int .i64 n)) (some (.int .i64 n))).run Try.prog w = .ok (.slice (some ⟨g, 11, none⟩) n n) w := by
  have hlen : Try.prog.arrayLen 45 = 12 := by kernel_rfl
  have hsz : (sizeOf (Try.prog.elem 45)).run Try.prog w = .ok 3 w := by kernel_rfl
  have e := Go.run_sliceAt_array_hm (P := Try.prog) w 45 ⟨g, 11, none⟩ (by kernel_rfl) .i64 .i64 (n : Int) (n : Int) (by omega) (by omega) (by rw [hlen]; omega)
  rw [e, hsz]
  simp [slicedAt, Addr.add, c, Result.andThen]
set_option maxHeartbeats 1000000 in
theorem list_m (g : Nat) (s : St) (w : World) (h : In w g s) :
    Calls Try.prog 18 #[.pointer (some ⟨g, 0, none⟩)] w fun e w' => e = .returned (listV g s.L) ∧ Below w.heap.size w w' := by
  obtain ⟨z, hl⟩ := h.num
  clear h
  by_cases c : s.L.length = 0
  · have e : listV g s.L = .slice none 0 0 := by unfold listV; rw [if_pos c]
    rw [e]
    rw [c] at z
    clear c e hl
    go_enter Try.func18, Try.ntmps18
    go_wp2_with fail
    go_ret
    exact ⟨rfl, Below.refl _ _⟩
  · have e : listV g s.L = .slice (some ⟨g, 11, none⟩) s.L.length s.L.length := by unfold listV; rw [if_neg c]
    rw [e]
    obtain ⟨n, hn⟩ : ∃ n, s.L.length = n := ⟨_, rfl⟩
    rw [hn] at c hl z ⊢
    have t : ((n : Int) == 0) = false := by simpa using c
    clear e hn
    go_enter Try.func18, Try.ntmps18
    go_wp2_with fail
    refine wp_region_still_lit (by kernel_rfl) (by kernel_rfl) ?_
    have zd : ({ heap := w.heap, tape := w.tape, drawn := w.drawn + 1, os := w.os, output := w.output } : World).cell? ⟨g, 47, none⟩ = some (.int .i64 n) := z
    have hbw : Below w.heap.size w { heap := w.heap, tape := w.tape, drawn := w.drawn + 1, os := w.os, output := w.output } := belowD (Below.refl _ _)
    generalize ({ heap := w.heap, tape := w.tape, drawn := w.drawn + 1, os := w.os, output := w.output } : World) = wd at zd hbw ⊢
    have hsl := slice_list g n wd hl c
    clear z
    repeat still_step
    refine wpStill_nil ?_
    go_wp2_with fail
    go_ret
    exact ⟨rfl, hbw⟩
end Go.Proofs.Ytmejjejafimhfaa
