/- ports, the document's clock and Advance. ports, the document's Advance. -/
import Derived.Test.YtniagcbajjmopaaGreatPortsRa
import Derived.Test.YtniagcbajjmopaaGreatPortsBm
import Derived.Deep.CutRange
import Derived.Test.YtniagcbajjmopaaGreatPortsM
namespace Go.Proofs.YtniagcbajjmopaaGreat
open Go.RowKit
set_option linter.unusedVariables false
set_option linter.unusedSimpArgs false
set_option maxRecDepth 100000
/-- The bounds that the clock asks for. -/
structure Cx (s : Pt) : Prop where
  c0 : 0 ≤ s.control
  c1 : s.control ≤ 255
  d0 : 0 ≤ s.dot
  d1 : s.dot ≤ 65535
  l0 : 0 ≤ s.line
  l1 : s.line ≤ 65535
theorem Fit2.cx {s : Pt} (F : Fit2 s) : Cx s := ⟨F.base.c0, F.base.c1, F.base.d0, F.base.d1, F.base.l0, F.base.l1⟩
theorem Cx.happen {s : Pt} (h : Cx s) (t : Int) : Cx (Proofs.YtniagcbajjmopaaGreat.happen s t) := ⟨h.c0, h.c1, h.d0, h.d1, h.l0, h.l1⟩
theorem eq_dec (a b : Int) : (a == b) = decide (a = b) := by
  by_cases h : a = b
  · rw [decide_eq_true h]; simpa using h
  · rw [decide_eq_false h]; simpa using h
/-- What happens at a time, told by what the beam's place is. -/
theorem happen_told {s : Pt} (C : Cx s) {t L H : Int} {a1 a2 a3 a4 aL aD k0 k4 k5 k7 : Bool} (hL : lineT t = L) (hH : t % 1364 = H) (q1 : (L == behind s.over) = a1) (q2 : (H == 0) = a2) (q3 : (L == 0) = a3) (q4 : (H == 130) = a4)
    (q5 : (L == s.line) = aL) (q6 : (H == 4 * s.dot) = aD) (b0 : decide (s.control % 2 = 1) = k0) (b4 : decide (s.control / 16 % 2 = 1) = k4) (b5 : decide (s.control / 32 % 2 = 1) = k5) (b7 : decide (s.control / 128 % 2 = 1) = k7) :
    happen s t = { s with now := t, flagged := if a3 && a2 then false else (s.flagged || (a1 && a2)), come := s.come || (a1 && a2 && k7), auto0 := if a1 && a4 && k0 then s.say0 else s.auto0, auto1 := if a1 && a4 && k0 then s.say1 else s.auto1, busy := if a1 && a4 && k0 then t + 4224 else s.busy, irq := s.irq || ((k4 && k5 && aL && aD) || (k4 && !k5 && aD) || (k5 && !k4 && aL && a2)) } := by
  have hb := behind_pos s.over
  have l0 := C.l0
  have e1 : evB s t = (a1 && a2) := by
    unfold evB hits
    rw [hL, hH, ← q1, ← q2, eq_dec, eq_dec, ← Bool.decide_and]
    apply decide_eq_decide.mpr
    constructor
    · rintro ⟨h, h2⟩; exact ⟨by omega, h2⟩
    · rintro ⟨h, h2⟩; exact ⟨Or.inr h, h2⟩
  have e2 : evT t = (a3 && a2) := by
    unfold evT hits
    rw [hL, hH, ← q3, ← q2, eq_dec, eq_dec, ← Bool.decide_and]
    apply decide_eq_decide.mpr
    constructor
    · rintro ⟨h, h2⟩; exact ⟨by omega, h2⟩
    · rintro ⟨h, h2⟩; exact ⟨Or.inr h, h2⟩
  have e3 : evA s t = (a1 && a4) := by
    unfold evA hits
    rw [hL, hH, ← q1, ← q4, eq_dec, eq_dec, ← Bool.decide_and]
    apply decide_eq_decide.mpr
    constructor
    · rintro ⟨h, h2⟩; exact ⟨by omega, h2⟩
    · rintro ⟨h, h2⟩; exact ⟨Or.inr h, h2⟩
  have e4 : evI s t = ((k4 && k5 && aL && aD) || (k4 && !k5 && aD) || (k5 && !k4 && aL && a2)) := by
    have w1 : wants s = (k4 || k5) := by unfold wants; rw [Bool.decide_or, b4, b5]
    have hl : irqL s = if k5 then s.line else -1 := by unfold irqL; rw [← b5]; by_cases c : s.control / 32 % 2 = 1 <;> simp [c]
    have hh : irqH s = if k4 then 4 * s.dot else 0 := by unfold irqH; rw [← b4]; by_cases c : s.control / 16 % 2 = 1 <;> simp [c]
    unfold evI hits
    rw [w1, hl, hh, hL, hH]
    rw [eq_dec] at q5 q6 q2
    cases k4 <;> cases k5
    · simp
    · rw [← q5, ← q2]
      by_cases z1 : L = s.line <;> by_cases z2 : H = 0 <;> simp [z1, z2] <;> omega
    · rw [← q6]
      by_cases z2 : H = 4 * s.dot <;> simp [z2]
    · rw [← q5, ← q6]
      by_cases z1 : L = s.line <;> by_cases z2 : H = 4 * s.dot <;> simp [z1, z2] <;> omega
  unfold happen
  rw [e1, e2, e3, e4, b7, b0]
/-- The clock on its way: the beam's place lies in block b. -/
def Cq (W : World) (B b : Nat) (s : Pt) (L H : Int) (fl cm : Bool) (x0 x1 bz : Int) (iq : Bool) (w : World) : Prop :=
  Dp w B { s with flagged := fl, come := cm, auto0 := x0, auto1 := x1, busy := bz, irq := iq } ∧ w.cell? ⟨b, 1, none⟩ = some (.int .i64 L) ∧ w.cell? ⟨b, 2, none⟩ = some (.int .i64 H) ∧ b ≠ B ∧ Upd W B w
section
variable {W w : World} {B b : Nat} {s : Pt} {L H : Int} {fl cm iq : Bool} {x0 x1 bz : Int}
theorem Cq.flag (h : Cq W B b s L H fl cm x0 x1 bz iq w) (y : Bool) : Cq W B b s L H y cm x0 x1 bz iq (w.setCell ⟨B, 10, none⟩ (.bool y)) := ⟨h.1.set_ 10 _, keepSet h.2.1 h.2.2.2.1, keepSet h.2.2.1 h.2.2.2.1, h.2.2.2.1, h.2.2.2.2.set _ _⟩
theorem Cq.comes (h : Cq W B b s L H fl cm x0 x1 bz iq w) (y : Bool) : Cq W B b s L H fl y x0 x1 bz iq (w.setCell ⟨B, 11, none⟩ (.bool y)) := ⟨h.1.set_ 11 _, keepSet h.2.1 h.2.2.2.1, keepSet h.2.2.1 h.2.2.2.1, h.2.2.2.1, h.2.2.2.2.set _ _⟩
theorem Cq.irqs (h : Cq W B b s L H fl cm x0 x1 bz iq w) (y : Bool) : Cq W B b s L H fl cm x0 x1 bz y (w.setCell ⟨B, 12, none⟩ (.bool y)) := ⟨h.1.set_ 12 _, keepSet h.2.1 h.2.2.2.1, keepSet h.2.2.1 h.2.2.2.1, h.2.2.2.1, h.2.2.2.2.set _ _⟩
theorem Cq.a0 (h : Cq W B b s L H fl cm x0 x1 bz iq w) (y : Int) : Cq W B b s L H fl cm y x1 bz iq (w.setCell ⟨B, 15, none⟩ (.int .u16 y)) := ⟨h.1.set_ 15 _, keepSet h.2.1 h.2.2.2.1, keepSet h.2.2.1 h.2.2.2.1, h.2.2.2.1, h.2.2.2.2.set _ _⟩
theorem Cq.a1 (h : Cq W B b s L H fl cm x0 x1 bz iq w) (y : Int) : Cq W B b s L H fl cm x0 y bz iq (w.setCell ⟨B, 16, none⟩ (.int .u16 y)) := ⟨h.1.set_ 16 _, keepSet h.2.1 h.2.2.2.1, keepSet h.2.2.1 h.2.2.2.1, h.2.2.2.1, h.2.2.2.2.set _ _⟩
theorem Cq.busys (h : Cq W B b s L H fl cm x0 x1 bz iq w) (y : Int) : Cq W B b s L H fl cm x0 x1 y iq (w.setCell ⟨B, 1, none⟩ (.int .i64 y)) := ⟨h.1.set_ 1 _, keepSet h.2.1 h.2.2.2.1, keepSet h.2.2.1 h.2.2.2.1, h.2.2.2.1, h.2.2.2.2.set _ _⟩
theorem Cq.drew (h : Cq W B b s L H fl cm x0 x1 bz iq w) : Cq W B b s L H fl cm x0 x1 bz iq w.drew := ⟨h.1, h.2.1, h.2.2.1, h.2.2.2.1, h.2.2.2.2.drew⟩
theorem Cq.fr (h : Cq W B b s L H fl cm x0 x1 bz iq w) (i : Nat) : w.frozen? ⟨B, i, none⟩ = false := h.1.frozen i
end
section
variable {w : World} {B : Nat} {s : Pt}
set_option maxHeartbeats 8000000 in
theorem dclock_any (K : Dp w B s) (C : Cx s) (t : Int) (t0 : 0 ≤ t) (t1 : t ≤ 281474976710656) (hn : s.now = t) :
    Calls Tryz.prog 54 #[dpP B, .int .i64 t] w (DW w B (happen s t) (.tuple #[])) := by
  have hL : lineT t = t % 357368 / 1364 := rfl
  obtain ⟨L, eL⟩ : ∃ L, t % 357368 / 1364 = L := ⟨_, rfl⟩
  obtain ⟨H, eH⟩ : ∃ H, t % 1364 = H := ⟨_, rfl⟩
  have OF := Lib.hid (Bm.rOf_yes t w t0 t1)
  obtain ⟨bf, ebf⟩ : ∃ f, t / 357368 = f := ⟨_, rfl⟩
  rw [eL, ebf, eH] at OF
  obtain ⟨bd, ebd⟩ : ∃ d, H / 4 = d := ⟨_, rfl⟩
  rw [ebd] at OF
  have LA := Lib.hid (fun w' => Bm.rLast_any s.over w')
  have hbh : Bm.lastN s.over + 1 = behind s.over := by unfold Bm.lastN behind; cases s.over <;> rfl
  obtain ⟨lst, elst⟩ : ∃ l, Bm.lastN s.over = l := ⟨_, rfl⟩
  rw [elst] at LA hbh
  have lb : 0 ≤ lst ∧ lst ≤ 239 := by rw [← elst]; unfold Bm.lastN; cases s.over <;> simp
  obtain ⟨bh, ebh⟩ : ∃ l, behind s.over = l := ⟨_, rfl⟩
  rw [ebh] at hbh
  have wl : IntKind.i64.wrap (lst + 1) = bh := by rw [IntKind.wrap_i64]; omega
  have B0 := Lib.hid (fun w' => dbit0 s.control C.c0 C.c1 w')
  have B4 := Lib.hid (fun w' => dbit4 s.control C.c0 C.c1 w')
  have B5 := Lib.hid (fun w' => dbit5 s.control C.c0 C.c1 w')
  have B7 := Lib.hid (fun w' => dbit7 s.control C.c0 C.c1 w')
  obtain ⟨k0, e0⟩ : ∃ b, decide (s.control % 2 = 1) = b := ⟨_, rfl⟩
  obtain ⟨k4, e4⟩ : ∃ b, decide (s.control / 16 % 2 = 1) = b := ⟨_, rfl⟩
  obtain ⟨k5, e5⟩ : ∃ b, decide (s.control / 32 % 2 = 1) = b := ⟨_, rfl⟩
  obtain ⟨k7, e7⟩ : ∃ b, decide (s.control / 128 % 2 = 1) = b := ⟨_, rfl⟩
  rw [e0] at B0
  rw [e4] at B4
  rw [e5] at B5
  rw [e7] at B7
  obtain ⟨a1, q1⟩ : ∃ b, (L == bh) = b := ⟨_, rfl⟩
  obtain ⟨a2, q2⟩ : ∃ b, (H == 0) = b := ⟨_, rfl⟩
  obtain ⟨a3, q3⟩ : ∃ b, (L == 0) = b := ⟨_, rfl⟩
  obtain ⟨a4, q4⟩ : ∃ b, (H == 130) = b := ⟨_, rfl⟩
  obtain ⟨aL, q5⟩ : ∃ b, (L == s.line) = b := ⟨_, rfl⟩
  obtain ⟨aD, q6⟩ : ∃ b, (H == 4 * s.dot) = b := ⟨_, rfl⟩
  have HT := Lib.hid (happen_told (a1 := a1) C (hL.trans eL) eH (by rw [ebh]; exact q1) q2 q3 q4 q5 q6 e0 e4 e5 e7)
  obtain ⟨hp, hhp⟩ : ∃ h, happen s t = h := ⟨_, rfl⟩
  rw [hhp] at HT
  rw [hhp]
  clear hhp
  obtain ⟨ct, hct⟩ : ∃ b, s.control = b := ⟨_, rfl⟩
  obtain ⟨ln, hln⟩ : ∃ b, s.line = b := ⟨_, rfl⟩
  obtain ⟨dt, hdt⟩ : ∃ b, s.dot = b := ⟨_, rfl⟩
  have d0 := C.d0
  have d1 := C.d1
  have l0 := C.l0
  have l1 := C.l1
  rw [hln] at q5 l0 l1
  rw [hdt] at q6 d0 d1
  have wln : IntKind.i64.wrap ln = ln := by rw [IntKind.wrap_i64]; omega
  have wdt : IntKind.i64.wrap dt = dt := by rw [IntKind.wrap_i64]; omega
  have wd4 : IntKind.i64.wrap (4 * dt) = 4 * dt := by rw [IntKind.wrap_i64]; omega
  have wbz : IntKind.i64.wrap (t + 4224) = t + 4224 := by rw [IntKind.wrap_i64]; omega
  have KD : Hid (∀ (w' : World) (b : Nat) (fl cm iq : Bool) (x0 x1 bz : Int), Cq w B b s L H fl cm x0 x1 bz iq w' → w'.cell? ⟨B, 1, none⟩ = some (.int .i64 bz) ∧ w'.cell? ⟨B, 2, none⟩ = some (.int .u8 ct) ∧ w'.cell? ⟨B, 8, none⟩ = some (.int .u16 dt) ∧ w'.cell? ⟨B, 9, none⟩ = some (.int .u16 ln) ∧
      w'.cell? ⟨B, 10, none⟩ = some (.bool fl) ∧ w'.cell? ⟨B, 11, none⟩ = some (.bool cm) ∧ w'.cell? ⟨B, 12, none⟩ = some (.bool iq) ∧ w'.cell? ⟨B, 13, none⟩ = some (.int .u16 s.say0) ∧ w'.cell? ⟨B, 14, none⟩ = some (.int .u16 s.say1) ∧ w'.cell? ⟨B, 15, none⟩ = some (.int .u16 x0) ∧ w'.cell? ⟨B, 16, none⟩ = some (.int .u16 x1) ∧ w'.cell? ⟨b, 1, none⟩ = some (.int .i64 L) ∧ w'.cell? ⟨b, 2, none⟩ = some (.int .i64 H)) := Lib.hid (fun w' b fl cm iq x0 x1 bz k => ⟨k.1.cell 1, by rw [← hct]; exact k.1.cell 2, by rw [← hdt]; exact k.1.cell 8, by rw [← hln]; exact k.1.cell 9, k.1.cell 10, k.1.cell 11, k.1.cell 12, k.1.cell 13, k.1.cell 14, k.1.cell 15, k.1.cell 16, k.2.1, k.2.2.1⟩)
  have FIN : Hid (∀ (w' : World) (b : Nat) (fl cm iq : Bool) (x0 x1 bz : Int), Cq w B b s L H fl cm x0 x1 bz iq w' → Dp w' B { s with now := t, flagged := fl, come := cm, auto0 := x0, auto1 := x1, busy := bz, irq := iq } ∧ Upd w B w') := Lib.hid (fun w' b fl cm iq x0 x1 bz k => ⟨by rw [← hn]; exact k.1, k.2.2.2.2⟩)
  have START : Hid (∀ w', Below w.heap.size w w' → ∀ b, w.heap.size ≤ b → w'.cell? ⟨b, 1, none⟩ = some (.int .i64 L) → w'.cell? ⟨b, 2, none⟩ = some (.int .i64 H) → Cq w B b s L H s.flagged s.come s.auto0 s.auto1 s.busy s.irq w') := Lib.hid (fun w' hb b hle h1 h2 => ⟨K.kept hb, h1, h2, by have := K.lt; omega, Upd.ofBelow hb B⟩)
  rw [hct] at B0 B4 B5 B7
  have c21 : w.cell? ⟨B, 21, none⟩ = some (.bool s.over) := K.cell 21
  have KB : Hid (∀ o1 o2, ((w.alloc o1).alloc o2).cell? ⟨B, 21, none⟩ = some (.bool s.over)) := Lib.hid (fun o1 o2 => keepAlloc (keepAlloc c21 _) _)
  have lB := K.lt
  obtain ⟨ov, hov⟩ : ∃ o, s.over = o := ⟨_, rfl⟩
  rw [hov] at LA c21 KB
  clear K C eL eH ebf ebd elst ebh hbh lb e0 e4 e5 e7 hn hL hov hct hln hdt d0 d1 l0 l1 t0 t1
  go_enter Tryz.func54, Tryz.ntmps54
  go_upto_region 1 with (go_at_call 60; refine OF.out.mono ?_; rintro e w' ⟨rfl, rfl⟩)
  have x21 := KB.out (Bm.beamO bf L H bd) (Bm.beamO bf L H bd)
  go_upto_region 2 with (go_at_call 61; refine (LA.out _).mono ?_; rintro e w' ⟨rfl, rfl⟩)
  obtain ⟨b, hb⟩ : ∃ b, b = w.heap.size + 1 := ⟨_, rfl⟩
  have BL : Below w.heap.size w ((w.alloc (Bm.beamO bf L H bd)).alloc (Bm.beamO bf L H bd)) := belowA (belowA (Below.refl _ _) _) _
  have hz : (w.alloc (Bm.beamO bf L H bd)).heap.size = w.heap.size + 1 := Array.size_push ..
  have g1 : ((w.alloc (Bm.beamO bf L H bd)).alloc (Bm.beamO bf L H bd)).cell? ⟨w.heap.size + 1, 1, none⟩ = some (.int .i64 L) := by
    have := (Blk.new (w.alloc (Bm.beamO bf L H bd)) 79 #[.int .i64 bf, .int .i64 L, .int .i64 H, .int .i64 bd]).cell 1
    rw [hz] at this; exact this
  have g2 : ((w.alloc (Bm.beamO bf L H bd)).alloc (Bm.beamO bf L H bd)).cell? ⟨w.heap.size + 1, 2, none⟩ = some (.int .i64 H) := by
    have := (Blk.new (w.alloc (Bm.beamO bf L H bd)) 79 #[.int .i64 bf, .int .i64 L, .int .i64 H, .int .i64 bd]).cell 2
    rw [hz] at this; exact this
  rw [← hb] at g1 g2
  try rw [← hb]
  have S1 := Lib.hid (START.out _ BL b (by omega) g1 g2)
  clear BL hz g1 g2 x21 hb START OF KB c21
  try change Code.wp _ _ _ _ ((w.alloc (Bm.beamO bf L H bd)).alloc (Bm.beamO bf L H bd))
  generalize (w.alloc (Bm.beamO bf L H bd)).alloc (Bm.beamO bf L H bd) = W1 at S1 ⊢
  obtain ⟨p1, hp1⟩ : ∃ p, (a1 && a2) = p := ⟨_, rfl⟩
  obtain ⟨y1, y2, y3, y4, y5, y6, y7, y8, y9, y10, y11, y12, y13⟩ := KD.out _ _ _ _ _ _ _ _ S1.out
  go_cut [26] from 18 to 26 (fun v wx => v = .bool p1 ∧ wx = W1)
  case first =>
    cases a1
    all_goals
      go_wp2_with fail
      go_meet
      case rel => exact ⟨by first | (rw [← hp1]; done) | (rw [← hp1]; rfl) | (rw [← hp1]; simp; done), rfl⟩
  clear y1 y2 y3 y4 y5 y6 y7 y8 y9 y10 y11 y12 y13
  obtain ⟨rfl, hcut⟩ := hcut
  subst hcut
  go_upto_if 26 with (fail)
  go_cut [26] from 26 to 37 (fun v wx => Cq w B b s L H (s.flagged || p1) (s.come || (p1 && k7)) s.auto0 s.auto1 s.busy s.irq wx)
  case first =>
    obtain ⟨y1, y2, y3, y4, y5, y6, y7, y8, y9, y10, y11, y12, y13⟩ := KD.out _ _ _ _ _ _ _ _ S1.out
    have f10 := S1.out.fr 10
    have f11 := S1.out.fr 11
    clear hp1
    cases p1
    · go_wp2_with fail
      go_meet
      case rel => simpa using S1.out
    · have S2 := Lib.hid (S1.out.flag true)
      have S3 := Lib.hid (S2.out.comes true)
      have z2 : (wc.setCell ⟨B, 10, none⟩ (.bool true)).cell? ⟨B, 2, none⟩ = some (.int .u8 ct) := (KD.out _ _ _ _ _ _ _ _ S2.out).2.1
      cases k7
      all_goals
        go_wp2_with (go_at_call 37; refine (B7.out _).mono ?_; rintro e w' ⟨rfl, rfl⟩)
        go_meet
        case rel => first | (simpa using S2.out) | (simpa using S3.out)
  clear S1
  have S1 := Lib.hid hcut
  clear hcut
  rw [← hp1] at S1
  clear hp1
  obtain ⟨fl, hfl⟩ : ∃ x, (s.flagged || (a1 && a2)) = x := ⟨_, rfl⟩
  obtain ⟨cm, hcm⟩ : ∃ x, (s.come || (a1 && a2 && k7)) = x := ⟨_, rfl⟩
  rw [hfl, hcm] at S1
  have EF := Lib.hid hfl
  have EC := Lib.hid hcm
  clear hfl hcm
  -- the first line
  go_upto_region 6 with (fail)
  obtain ⟨p2, hp2⟩ : ∃ p, (a3 && a2) = p := ⟨_, rfl⟩
  obtain ⟨y1, y2, y3, y4, y5, y6, y7, y8, y9, y10, y11, y12, y13⟩ := KD.out _ _ _ _ _ _ _ _ S1.out
  obtain ⟨W2, hW2⟩ : ∃ x, x = wc := ⟨_, rfl⟩
  rw [← hW2] at S1 y1 y2 y3 y4 y5 y6 y7 y8 y9 y10 y11 y12 y13 ⊢
  clear hW2 wc
  go_cut [45] from 38 to 45 (fun v wx => v = .bool p2 ∧ wx = W2)
  case first =>
    cases a3
    all_goals
      go_wp2_with fail
      go_meet
      case rel => exact ⟨by first | (rw [← hp2]; done) | (rw [← hp2]; rfl) | (rw [← hp2]; simp; done), rfl⟩
  clear y1 y2 y3 y4 y5 y6 y7 y8 y9 y10 y11 y12 y13
  obtain ⟨rfl, hcut⟩ := hcut
  subst hcut
  go_upto_if 45 with (fail)
  go_cut [45] from 45 to 48 (fun v wx => Cq w B b s L H (if p2 then false else fl) cm s.auto0 s.auto1 s.busy s.irq wx)
  case first =>
    obtain ⟨y1, y2, y3, y4, y5, y6, y7, y8, y9, y10, y11, y12, y13⟩ := KD.out _ _ _ _ _ _ _ _ S1.out
    have f10 := S1.out.fr 10
    clear hp2
    cases p2
    · go_wp2_with fail
      go_meet
      case rel => simpa using S1.out
    · have S2 := Lib.hid (S1.out.flag false)
      go_wp2_with fail
      go_meet
      case rel => simpa using S2.out
  clear S1
  have S1 := Lib.hid hcut
  clear hcut
  rw [← hp2] at S1
  clear hp2
  obtain ⟨fl2, hfl2⟩ : ∃ x, (if (a3 && a2) = true then false else fl) = x := ⟨_, rfl⟩
  rw [hfl2] at S1
  have EF2 := Lib.hid hfl2
  clear hfl2
  -- the pads
  go_upto_region 8 with (fail)
  obtain ⟨p3, hp3⟩ : ∃ p, (a1 && a4 && k0) = p := ⟨_, rfl⟩
  obtain ⟨y1, y2, y3, y4, y5, y6, y7, y8, y9, y10, y11, y12, y13⟩ := KD.out _ _ _ _ _ _ _ _ S1.out
  obtain ⟨W3, hW3⟩ : ∃ x, x = wc := ⟨_, rfl⟩
  rw [← hW3] at S1 y1 y2 y3 y4 y5 y6 y7 y8 y9 y10 y11 y12 y13 ⊢
  clear hW3 wc
  go_cut [64] from 49 to 64 (fun v wx => v = .bool p3 ∧ wx = W3)
  case first =>
    have ha : a1 = false ∨ (a1 = true ∧ a4 = false) ∨ (a1 = true ∧ a4 = true) := by cases a1 <;> cases a4 <;> simp
    rcases ha with rfl | ⟨rfl, rfl⟩ | ⟨rfl, rfl⟩
    all_goals
      go_wp2_with (go_at_call 37; refine (B0.out _).mono ?_; rintro e w' ⟨rfl, rfl⟩)
      go_meet
      case rel => exact ⟨by first | (rw [← hp3]; done) | (rw [← hp3]; rfl) | (rw [← hp3]; simp; done), rfl⟩
  clear y1 y2 y3 y4 y5 y6 y7 y8 y9 y10 y11 y12 y13
  obtain ⟨rfl, hcut⟩ := hcut
  subst hcut
  go_upto_if 64 with (fail)
  go_cut [64] from 64 to 76 (fun v wx => Cq w B b s L H fl2 cm (if p3 then s.say0 else s.auto0) (if p3 then s.say1 else s.auto1) (if p3 then t + 4224 else s.busy) s.irq wx)
  case first =>
    obtain ⟨y1, y2, y3, y4, y5, y6, y7, y8, y9, y10, y11, y12, y13⟩ := KD.out _ _ _ _ _ _ _ _ S1.out
    have f15 := S1.out.fr 15
    have f16 := S1.out.fr 16
    have f1 := S1.out.fr 1
    clear hp3
    cases p3
    · go_wp2_with fail
      go_meet
      case rel => simpa using S1.out
    · have S2 := Lib.hid (((S1.out.a0 s.say0).a1 s.say1).busys (t + 4224))
      go_wp2_with fail
      go_meet
      case rel => first | (simpa using S2.out) | trace_state
  clear S1
  have S1 := Lib.hid hcut
  clear hcut
  rw [← hp3] at S1
  clear hp3
  obtain ⟨x0, hx0⟩ : ∃ x, (if (a1 && a4 && k0) = true then s.say0 else s.auto0) = x := ⟨_, rfl⟩
  obtain ⟨x1, hx1⟩ : ∃ x, (if (a1 && a4 && k0) = true then s.say1 else s.auto1) = x := ⟨_, rfl⟩
  obtain ⟨bz, hbz⟩ : ∃ x, (if (a1 && a4 && k0) = true then t + 4224 else s.busy) = x := ⟨_, rfl⟩
  rw [hx0, hx1, hbz] at S1
  have EX0 := Lib.hid hx0
  have EX1 := Lib.hid hx1
  have EBZ := Lib.hid hbz
  clear hx0 hx1 hbz
  -- the interrupt
  go_upto_region 11 with (fail)
  obtain ⟨y1, y2, y3, y4, y5, y6, y7, y8, y9, y10, y11, y12, y13⟩ := KD.out _ _ _ _ _ _ _ _ S1.out
  have f12 := S1.out.fr 12
  have hev : Hid (∀ w', Cq w B b s L H fl2 cm x0 x1 bz (s.irq || ((k4 && k5 && aL && aD) || (k4 && !k5 && aD) || (k5 && !k4 && aL && a2))) w' → Dp w' B hp ∧ Upd w B w') := Lib.hid (fun w' k => by rw [HT.out, EF.out, EF2.out, EC.out, EX0.out, EX1.out, EBZ.out]; exact FIN.out _ _ _ _ _ _ _ _ k)
  clear HT EF EF2 EC EX0 EX1 EBZ FIN B0 B7 q1 q3 q4 lB LA wbz wl
  go_upto_region 12 with (go_at_call 37; refine (B4.out _).mono ?_; rintro e w' ⟨rfl, rfl⟩)
  go_upto_region 13 with (go_at_call 37; refine (B5.out _).mono ?_; rintro e w' ⟨rfl, rfl⟩)
  have KQ : Hid (∀ w' n, Cq w B b s L H fl2 cm x0 x1 bz s.irq w' → Cq w B b s L H fl2 cm x0 x1 bz s.irq (World.drewN w' n)) := Lib.hid (fun w' n k => ⟨by first | exact k.1 | exact k.1.kept (below_drewN (Below.refl _ _) n), by rw [← k.2.1]; rfl, by rw [← k.2.2.1]; rfl, k.2.2.2.1, k.2.2.2.2.drewN n⟩)
  go_quiet (fail)
  have S2 := Lib.hid (KQ.out _ nq S1.out)
  clear y1 y2 y3 y4 y5 y6 y7 y8 y9 y10 y11 y12 y13 S1 f12
  generalize World.drewN wc nq = w3 at S2 ⊢
  go_upto_region 14 with (fail)
  obtain ⟨y1, y2, y3, y4, y5, y6, y7, y8, y9, y10, y11, y12, y13⟩ := KD.out _ _ _ _ _ _ _ _ S2.out
  clear nq
  go_quiet (fail)
  have S3 := Lib.hid (KQ.out _ nq S2.out)
  clear y1 y2 y3 y4 y5 y6 y7 y8 y9 y10 y11 y12 y13 S2
  generalize World.drewN w3 nq = w4 at S3 ⊢
  go_upto_region 15 with (fail)
  obtain ⟨y1, y2, y3, y4, y5, y6, y7, y8, y9, y10, y11, y12, y13⟩ := KD.out _ _ _ _ _ _ _ _ S3.out
  have f12 := S3.out.fr 12
  have S4 := Lib.hid (S3.out.irqs true)
  clear q5 q6 wln wdt wd4 KD KQ B4 B5
  have hk : (k4 = true ∧ k5 = true ∧ aL = true ∧ aD = true) ∨ (k4 = true ∧ k5 = true ∧ aL = true ∧ aD = false) ∨ (k4 = true ∧ k5 = true ∧ aL = false) ∨ (k4 = true ∧ k5 = false ∧ aD = true) ∨ (k4 = true ∧ k5 = false ∧ aD = false) ∨ (k4 = false ∧ k5 = true ∧ aL = true ∧ a2 = true) ∨ (k4 = false ∧ k5 = true ∧ aL = true ∧ a2 = false) ∨ (k4 = false ∧ k5 = true ∧ aL = false) ∨ (k4 = false ∧ k5 = false) := by cases k4 <;> cases k5 <;> cases aL <;> cases aD <;> cases a2 <;> simp
  rcases hk with ⟨rfl, rfl, rfl, rfl⟩ | ⟨rfl, rfl, rfl, rfl⟩ | ⟨rfl, rfl, rfl⟩ | ⟨rfl, rfl, rfl⟩ | ⟨rfl, rfl, rfl⟩ | ⟨rfl, rfl, rfl, rfl⟩ | ⟨rfl, rfl, rfl, rfl⟩ | ⟨rfl, rfl, rfl⟩ | ⟨rfl, rfl⟩
  all_goals
    go_wp2_with fail
    go_end0
    have z : s.irq = s.irq := rfl
    first
      | exact ⟨rfl, hev.out _ (by simpa using S4.out)⟩
      | exact ⟨rfl, hev.out _ (by simpa using S3.out)⟩
end
end Go.Proofs.YtniagcbajjmopaaGreat

namespace Go.Proofs.YtniagcbajjmopaaGreat
open Go.RowKit
set_option linter.unusedVariables false
set_option linter.unusedSimpArgs false
set_option maxRecDepth 100000
theorem Cx.ticks {s : Pt} (C : Cx s) (n : Nat) : Cx (Proofs.YtniagcbajjmopaaGreat.ticks n s) := by
  induction n generalizing s with
  | zero => exact C
  | succ n ih => exact ih (C.happen _)
theorem Cx.at_ {s : Pt} (C : Cx s) (t : Int) : Cx { s with now := t } := ⟨C.c0, C.c1, C.d0, C.d1, C.l0, C.l1⟩
theorem happen_at (s : Pt) (t u : Int) : happen { s with now := u } t = happen s t := rfl
/-- One more tick. -/
theorem ticks_more (s : Pt) (n : Nat) : happen (ticks n s) (s.now + (n + 1 : Nat)) = ticks (n + 1) s := by
  rw [ticks_add]
  show _ = tick (ticks n s)
  unfold tick
  rw [ticks_now]
  congr 1
  omega
section
variable {w : World} {B : Nat} {s : Pt}
set_option maxHeartbeats 4000000 in
theorem dadvance_any (K : Dp w B s) (C : Cx s) (n0 : 0 ≤ s.now) (T : Int) (hT : s.now ≤ T) (hT1 : T ≤ 281474976710656) :
    Calls Tryz.prog 15 #[dpP B, .int .i64 T] w (DW w B (ticks (T - s.now).toNat s) (.int .i64 0)) := by
  have c0 : w.cell? ⟨B, 0, none⟩ = some (.int .i64 s.now) := K.cell 0
  obtain ⟨nw, hnw⟩ : ∃ nw, s.now = nw := ⟨_, rfl⟩
  have HNW := Lib.hid hnw
  rw [hnw] at c0 hT n0 ⊢
  have HA := Lib.hid K
  have HC := Lib.hid C
  clear K C hnw
  go_enter Tryz.func15, Tryz.ntmps15
  go_wp2_with fail
  go_loopw [] (fun wr => ∃ k : Nat, nw + k ≤ T ∧ Dp wr B (ticks k s) ∧ Upd w B wr) (fun wr => match wr.cell? ⟨B, 0, none⟩ with | some (.int _ x) => (T - x).toNat | _ => 0)
  case atStart => exact ⟨0, by omega, HA.out, Upd.refl _ _⟩
  case round =>
    obtain ⟨k, hk, a, u⟩ := hrel
    have d0 : wr.cell? ⟨B, 0, none⟩ = some (.int .i64 (nw + k)) := by
      have := a.cell 0
      have e : (ticks k s).now = nw + k := by rw [ticks_now, HNW.out]
      rw [← e]; exact this
    have f0 := a.frozen 0
    have AA := Lib.hid a
    have U := Lib.hid u
    clear a u c0
    obtain ⟨m, hm⟩ : ∃ m, nw + (k : Int) = m := ⟨_, rfl⟩
    rw [hm] at d0 hk
    have HM := Lib.hid hm
    by_cases hlt : m < T
    · have wm : IntKind.i64.wrap (m + 1) = m + 1 := by rw [IntKind.wrap_i64]; omega
      have A2 : Hid (Dp (wr.setCell ⟨B, 0, none⟩ (.int .i64 (m + 1))) B { ticks k s with now := m + 1 }) := AA.out.set_ 0 _
      have CL := Lib.hid (dclock_any A2.out ((HC.out.ticks k).at_ _) (m + 1) (by omega) (by omega) rfl)
      have e2 : happen { ticks k s with now := m + 1 } (m + 1) = ticks (k + 1) s := by
        rw [happen_at, ← ticks_more, HNW.out]; congr 1; omega
      rw [e2] at CL
      have z0 : (wr.setCell ⟨B, 0, none⟩ (.int .i64 (m + 1))).cell? ⟨B, 0, none⟩ = some (.int .i64 (m + 1)) := A2.out.cell 0
      clear e2 hm
      go_wp2_with fail
      refine CL.out.mono ?_
      rintro e w2 ⟨rfl, a2, u2⟩
      have U2 := Lib.hid ((U.out.set 0 (.int .i64 (m + 1))).trans u2)
      have e0 : w2.cell? ⟨B, 0, none⟩ = some (.int .i64 (m + 1)) := by
        have := a2.cell 0
        have e : (ticks (k + 1) s).now = m + 1 := by rw [ticks_now, HNW.out, ← HM.out]; omega
        rw [← e]; exact this
      have E0 := Lib.hid e0
      have A3 := Lib.hid a2
      clear a2 u2 e0 CL z0
      go_wp2_with fail
      go_roundw
      case rel => exact ⟨k + 1, by have := HM.out; omega, A3.out, U2.out⟩
      case measure => rw [E0.out, d0]; simp; omega
    · have hmT : m = T := by omega
      have hkk : (T - nw).toNat = k := by have := HM.out; omega
      rw [hkk]
      clear hm
      go_wp2_with fail
      go_ret
      exact ⟨rfl, AA.out, U.out⟩
set_option maxHeartbeats 1000000 in
theorem dadvance_no (K : Dp w B s) (T : Int) (hT : T < s.now ∨ 281474976710656 < T) :
    Calls Tryz.prog 15 #[dpP B, .int .i64 T] w (Says w (.int .i64 2)) := by
  have c0 : w.cell? ⟨B, 0, none⟩ = some (.int .i64 s.now) := K.cell 0
  obtain ⟨nw, hnw⟩ : ∃ nw, s.now = nw := ⟨_, rfl⟩
  rw [hnw] at c0 hT
  clear K hnw
  by_cases h : T < nw
  · go_enter Tryz.func15, Tryz.ntmps15
    go_wp2_with fail
    go_ret
    exact ⟨rfl, Below.refl _ _⟩
  · have h1 : nw ≤ T := by omega
    have h2 : 281474976710656 < T := by omega
    go_enter Tryz.func15, Tryz.ntmps15
    go_wp2_with fail
    go_ret
    exact ⟨rfl, Below.refl _ _⟩
end
end Go.Proofs.YtniagcbajjmopaaGreat
