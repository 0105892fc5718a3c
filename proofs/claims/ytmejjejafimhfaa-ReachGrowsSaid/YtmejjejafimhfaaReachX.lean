/- The walker's other methods: what each computes, in plain words. -/
import Derived.Test.YtmejjejafimhfaaReachW
import Derived.Deep.DeepCutAuto
namespace Go.Proofs.Ytmejjejafimhfaa
open Go.RowKit
set_option linter.unusedVariables false
set_option linter.unusedSimpArgs false

/-- A walker's state. -/
structure St where
  r : Rg
  bs : List Int
  L : List Acc
  st : Bool
structure In (w : World) (g : Nat) (s : St) : Prop where
  ex : ∃ sv, Wk w g s.r sv s.L s.st ∧ Sn w g sv s.bs
  ok : s.r.ok
theorem In.upd {w w' : World} {g : Nat} {s : St} (h : In w g s) (k : Below w.heap.size w w') : In w' g s := by
  obtain ⟨⟨sv, h1, h2⟩, h3⟩ := h
  exact ⟨⟨sv, h1.kept k, h2.kept (Upd.ofBelow k g)⟩, h3⟩
theorem In.upd2 {w : World} {g : Nat} {s : St} (h : In w g s) {p : Addr} (hp : g < p.block) (u : Value) : In (w.setCell p u) g s := by
  obtain ⟨⟨sv, h1, h2⟩, h3⟩ := h
  refine ⟨⟨sv, ?_, ?_⟩, h3⟩
  · obtain ⟨⟨cs, hb, q⟩, hl⟩ := h1
    exact ⟨⟨cs, hb.other (by omega) u, q⟩, hl⟩
  · obtain ⟨⟨ao, c, e, k1, k2, k3⟩, hr⟩ := h2
    exact ⟨⟨ao, c, e, k1, k2, k3.imp id fun ⟨b, off, e1, e2, e4⟩ => ⟨b, off, e1, e2, fun j x hx => keepSet (e4 j x hx) (by show b ≠ p.block; omega)⟩⟩, hr⟩
theorem In.lt {w : World} {g : Nat} {s : St} (h : In w g s) : g < w.heap.size := by obtain ⟨⟨sv, h1, _⟩, _⟩ := h; exact h1.lt
/-- What a method leaves. -/
def Ret (W : World) (g : Nat) (v : Value) (s : St) (e : Ending) (w' : World) : Prop := e = .returned v ∧ In w' g s ∧ Upd W g w'
theorem Ret.from {W W0 : World} {g : Nat} {v : Value} {s : St} {e : Ending} {w' : World} (h : Ret W g v s e w') (k : Upd W0 g W) : Ret W0 g v s e w' := ⟨h.1, h.2.1, k.trans h.2.2⟩

def mRead (ad : Int) (s : St) : Int × St := (rdB s.bs, ⟨s.r, s.bs.tail, addL s.L s.st (1, ad % 16777216, 0), rdS s.bs s.st⟩)
def mIdle (s : St) : St := ⟨s.r, s.bs, addL s.L s.st (0, 0, 0), s.st⟩
def mPc (s : St) : St := ⟨{ s.r with pc := (s.r.pc + 1) % 65536 }, s.bs, s.L, s.st⟩
def mFetch (s : St) : Int × St := let q := mRead (s.r.k * 65536 + s.r.pc) s; (q.1, mPc q.2)
def mFetch16 (s : St) : Int × St := let q := mFetch s; let t := mFetch q.2; (q.1 + t.1 * 256, t.2)
def mFetch24 (s : St) : Int × St := let q := mFetch16 s; let t := mFetch q.2; (q.1 + t.1 * 65536, t.2)
def mPage (s : St) : St := if s.r.d % 256 = 0 then s else mIdle s
def mPointer (o : Int) (s : St) : Int × St := let q := mRead (directOf s.r.d s.r.e o) s; let t := mRead (directOf q.2.r.d q.2.r.e ((o + 1) % 4294967296)) q.2; (q.1 + t.1 * 256, t.2)
def mOffset (s : St) : Int × St := let q := mFetch s; (q.1, mPage q.2)
def bankOf (r : Rg) (n : Int) : Int := r.b * 65536 + n % 65536

theorem mRead_ok (ad : Int) (s : St) (h : s.r.ok) : (mRead ad s).2.r.ok := h
theorem rdB_rng {bs : List Int} (h : ∀ x ∈ bs, 0 ≤ x ∧ x ≤ 255) : 0 ≤ rdB bs ∧ rdB bs ≤ 255 := by
  cases bs with
  | nil => exact ⟨by decide, by decide⟩
  | cons b bs => exact h b (by simp)
theorem In.rng {w : World} {g : Nat} {s : St} (h : In w g s) : ∀ x ∈ s.bs, 0 ≤ x ∧ x ≤ 255 := by obtain ⟨⟨sv, _, h2⟩, _⟩ := h; exact h2.rng
theorem In.regs {w : World} {g : Nat} {s : St} (h : In w g s) : w.cell? ⟨g, 0, none⟩ = some (.int .u16 s.r.a) ∧ w.cell? ⟨g, 1, none⟩ = some (.int .u16 s.r.x) ∧ w.cell? ⟨g, 2, none⟩ = some (.int .u16 s.r.y) ∧ w.cell? ⟨g, 3, none⟩ = some (.int .u16 s.r.s) ∧ w.cell? ⟨g, 4, none⟩ = some (.int .u16 s.r.d) ∧ w.cell? ⟨g, 5, none⟩ = some (.int .u16 s.r.pc) ∧ w.cell? ⟨g, 6, none⟩ = some (.int .u8 s.r.b) ∧ w.cell? ⟨g, 7, none⟩ = some (.int .u8 s.r.k) ∧ w.cell? ⟨g, 8, none⟩ = some (.int .u8 s.r.p) ∧ w.cell? ⟨g, 9, none⟩ = some (.bool s.r.e) := by
  obtain ⟨⟨sv, h1, _⟩, _⟩ := h; exact h1.regs
theorem In.frozen {w : World} {g : Nat} {s : St} (h : In w g s) (i : Nat) : w.frozen? ⟨g, i, none⟩ = false := by obtain ⟨⟨sv, h1, _⟩, _⟩ := h; exact h1.frozen i

theorem read_m (ad : Int) (g : Nat) (s : St) (w : World) (h : In w g s) (a0 : 0 ≤ ad) (a1 : ad ≤ 4294967295) :
    Calls Try.prog 28 #[.pointer (some ⟨g, 0, none⟩), .int .u32 ad] w (Ret w g (.int .u8 (mRead ad s).1) (mRead ad s).2) := by
  obtain ⟨⟨sv, h1, h2⟩, h3⟩ := h
  refine (read_any ad g s.r sv s.bs s.L s.st w h1 h2 a0 a1).mono ?_
  rintro e w' ⟨sv', rfl, k1, k2, k3⟩
  exact ⟨rfl, ⟨⟨sv', k1, k2⟩, h3⟩, k3⟩
theorem idle_m (g : Nat) (s : St) (w : World) (h : In w g s) :
    Calls Try.prog 26 #[.pointer (some ⟨g, 0, none⟩)] w (Ret w g (.tuple #[]) (mIdle s)) := by
  obtain ⟨⟨sv, h1, h2⟩, h3⟩ := h
  refine (idle_any g s.r sv s.L s.st w h1).mono ?_
  rintro e w' ⟨rfl, k1, k3⟩
  exact ⟨rfl, ⟨⟨sv, k1, h2.kept k3⟩, h3⟩, k3⟩
theorem In.setPc {w : World} {g : Nat} {s : St} (h : In w g s) : In (w.setCell ⟨g, 5, none⟩ (.int .u16 ((s.r.pc + 1) % 65536))) g (mPc s) := by
  obtain ⟨⟨sv, h1, h2⟩, h3⟩ := h
  refine ⟨⟨sv, h1.setPc _, h2.kept ((Upd.refl w g).set _ _)⟩, ?_⟩
  obtain ⟨a1, a2, a3, a4, a5, a6, a7, a8, a9, a10, a11, a12, a13⟩ := h3
  exact ⟨a1, a2, a3, a4, a5, a6, a7, a8, a9, a10, by simp only [mPc]; omega, by simp only [mPc]; omega, a13⟩

set_option maxHeartbeats 1000000 in
/-- Fetch: a byte of the program. -/
theorem fetch_m (g : Nat) (s : St) (w : World) (h : In w g s) :
    Calls Try.prog 32 #[.pointer (some ⟨g, 0, none⟩)] w (Ret w g (.int .u8 (mFetch s).1) (mFetch s).2) := by
  obtain ⟨_, _, _, _, _, _, _, _, _, _, p0, p1, _, _, k0, k1, _, _⟩ := h.ok
  obtain ⟨_, _, _, _, _, c5, _, c7, _, _⟩ := h.regs
  have H := Lib.hid h
  have e1 := or_low 16 (by omega) (s.r.k * 65536) s.r.pc (by omega) (by omega) (by omega) p0 (by omega)
  have u1 : IntKind.u32.wrap s.r.k = s.r.k := by rw [IntKind.wrap_u32]; omega
  have u2 : IntKind.u32.wrap (s.r.k * 65536) = s.r.k * 65536 := by rw [IntKind.wrap_u32]; omega
  have u3 : IntKind.u32.wrap s.r.pc = s.r.pc := by rw [IntKind.wrap_u32]; omega
  have ep : IntKind.u16.wrap (s.r.pc + 1) = (s.r.pc + 1) % 65536 := by rw [IntKind.wrap_u16]
  obtain ⟨q, hq⟩ : ∃ q, mRead (s.r.k * 65536 + s.r.pc) s = q := ⟨_, rfl⟩
  have hqr : q.2.r = s.r := by rw [← hq]; rfl
  have hf : mFetch s = (q.1, mPc q.2) := by unfold mFetch; rw [hq]
  rw [hf]
  have HQ := Lib.hid hq
  have HR := Lib.hid hqr
  clear h hq hqr hf
  go_enter Try.func32, Try.ntmps32
  go_wp2_with fail
  go_region_held3 (fun w' => w'.cell? ⟨g, 5, none⟩ = some (.int .u16 s.r.pc) ∧ w'.cell? ⟨g, 7, none⟩ = some (.int .u8 s.r.k)) (first | exact ⟨c5, c7⟩ | (go_split_ands; exact ⟨r5, r7⟩))
    (first | (go_at_call 28; refine (read_m (s.r.k * 65536 + s.r.pc) g s _ (H.out.upd (belowD (Below.refl _ _))) (by omega) (by omega)).mono ?_; rw [HQ.out]; rintro e w1 ⟨rfl, k1, uu⟩; have r5 := k1.regs.2.2.2.2.2.1; have r7 := k1.regs.2.2.2.2.2.2.2.1; rw [HR.out] at r5 r7; have f5 := k1.frozen 5; have K1 := Lib.hid k1; have UU := Lib.hid uu; clear k1 uu))
  go_split_ands
  go_wp2_with fail
  go_ret
  have kk := K1.out.setPc
  rw [HR.out] at kk
  exact ⟨rfl, kk, (((Upd.refl w g).drew.trans UU.out).set _ _)⟩
end Go.Proofs.Ytmejjejafimhfaa
