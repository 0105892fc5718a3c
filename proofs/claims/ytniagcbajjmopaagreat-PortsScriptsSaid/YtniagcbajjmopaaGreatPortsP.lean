/- Over, NMI, IRQ, and what a read of the interrupt's flag does. -/
import Derived.Test.YtniagcbajjmopaaGreatPortsO
import Derived.Test.YtniagcbajjmopaaGreatPortsF
import Derived.WalkMore
namespace Go.Proofs.YtniagcbajjmopaaGreat
open Go.RowKit
set_option linter.unusedVariables false
set_option linter.unusedSimpArgs false
set_option maxRecDepth 100000
section
variable {w : World} {g : Nat} {s : Pt}
set_option maxHeartbeats 1000000 in
theorem over_any (A : Po w g s) (b : Bool) : Calls Tryz.prog 10 #[poP g, .bool b] w (PW w g { s with over := b, soon := 0 } (.tuple #[])) := by
  have c21 : w.cell? ⟨g, 21, none⟩ = some (.bool s.over) := A.cell 21
  have c22 : w.cell? ⟨g, 22, none⟩ = some (.int .i64 s.soon) := A.cell 22
  have f21 := A.frozen 21
  have f22 := A.frozen 22
  have a2 : Po ((w.setCell ⟨g, 21, none⟩ (.bool b)).setCell ⟨g, 22, none⟩ (.int .i64 0)) g { s with over := b, soon := 0 } := (A.set_ 21 _).set_ 22 _
  have A2 := Lib.hid a2
  clear A a2
  go_enter Tryz.func10, Tryz.ntmps10
  go_wp2_with fail
  go_end0
  exact ⟨rfl, A2.out, ((Upd.refl _ _).set _ _).set _ _⟩
set_option maxHeartbeats 1000000 in
theorem taken_gen (i : Nat) (b : Bool) (c : w.cell? ⟨g, i, none⟩ = some (.bool b)) (fr : w.frozen? ⟨g, i, none⟩ = false) :
    Calls Tryz.prog 46 #[.pointer (some ⟨g, i, none⟩)] w (fun e w' => e = .returned (.int .u8 (if b then 128 else 0)) ∧ w' = w.setCell ⟨g, i, none⟩ (.bool false)) := by
  cases b
  all_goals
    go_enter Tryz.func46, Tryz.ntmps46
    go_wp2_with fail
    go_ret
    exact ⟨rfl, rfl⟩
set_option maxHeartbeats 1000000 in
theorem nmi_any (A : Po w g s) : Calls Tryz.prog 11 #[poP g] w (PW w g { s with come := false } (.bool s.come)) := by
  have c11 : w.cell? ⟨g, 11, none⟩ = some (.bool s.come) := A.cell 11
  have T := Lib.hid (taken_gen 11 s.come c11 (A.frozen 11))
  have a2 : Po (w.setCell ⟨g, 11, none⟩ (.bool false)) g { s with come := false } := A.set_ 11 _
  have A2 := Lib.hid a2
  obtain ⟨b, hb⟩ : ∃ b, s.come = b := ⟨_, rfl⟩
  rw [hb] at T ⊢
  clear A a2 c11 hb
  cases b
  all_goals
    go_enter Tryz.func11, Tryz.ntmps11
    go_wp2_with fail
    refine T.out.mono ?_
    rintro e w2 ⟨rfl, rfl⟩
    go_wp2_with fail
    go_ret
    exact ⟨rfl, A2.out, (Upd.refl _ _).set _ _⟩
set_option maxHeartbeats 1000000 in
theorem irq_any (A : Po w g s) : Calls Tryz.prog 17 #[poP g] w (Says w (.bool s.irq)) := by
  have c12 : w.cell? ⟨g, 12, none⟩ = some (.bool s.irq) := A.cell 12
  clear A
  go_enter Tryz.func17, Tryz.ntmps17
  go_wp2_with fail
  go_ret
  exact ⟨rfl, Below.refl _ _⟩
/-- The flags that a read takes. -/
def tookB (o : Int) (b : Bool) : Int := bits .or .u8 (bits .and .u8 o 127) (if b then 128 else 0)
def tookA (o : Int) (b : Bool) : Int := bits .or .u8 (bits .or .u8 (bits .and .u8 o 112) 2) (if b then 128 else 0)
set_option maxHeartbeats 1000000 in
theorem read_irq (A : Po w g s) (o : Int) :
    Calls Tryz.prog 8 #[poP g, .int .u16 16913, .int .u8 o] w (PW w g { s with irq := false } (.tuple #[.int .u8 (tookB o s.irq), .bool true])) := by
  have T := Lib.hid (taken_gen 12 s.irq (A.cell 12) (A.frozen 12))
  have a2 : Po (w.setCell ⟨g, 12, none⟩ (.bool false)) g { s with irq := false } := A.set_ 12 _
  have A2 := Lib.hid a2
  obtain ⟨b, hb⟩ : ∃ b, s.irq = b := ⟨_, rfl⟩
  rw [hb] at T ⊢
  have hp : tookB o b = tookB o b := rfl
  conv at hp => lhs; unfold tookB
  obtain ⟨tk, htk⟩ : ∃ tk : Int, (if b then 128 else 0) = tk := ⟨_, rfl⟩
  rw [htk] at hp T
  have HP := Lib.hid hp
  clear A a2 hp hb htk
  go_enter Tryz.func8, Tryz.ntmps8
  go_wp2_with fail
  refine T.out.mono ?_
  rintro e w2 ⟨rfl, rfl⟩
  go_wp2_with fail
  go_ret2
  exact ⟨by rw [← HP.out]; rfl, A2.out, (Upd.refl _ _).set _ _⟩
set_option maxHeartbeats 1000000 in
theorem read_nmi (A : Po w g s) (o : Int) :
    Calls Tryz.prog 8 #[poP g, .int .u16 16912, .int .u8 o] w (PW w g { s with flagged := false } (.tuple #[.int .u8 (tookA o s.flagged), .bool true])) := by
  have T := Lib.hid (taken_gen 10 s.flagged (A.cell 10) (A.frozen 10))
  have a2 : Po (w.setCell ⟨g, 10, none⟩ (.bool false)) g { s with flagged := false } := A.set_ 10 _
  have A2 := Lib.hid a2
  obtain ⟨b, hb⟩ : ∃ b, s.flagged = b := ⟨_, rfl⟩
  rw [hb] at T ⊢
  have hp : tookA o b = tookA o b := rfl
  conv at hp => lhs; unfold tookA
  obtain ⟨tk, htk⟩ : ∃ tk : Int, (if b then 128 else 0) = tk := ⟨_, rfl⟩
  rw [htk] at hp T
  have HP := Lib.hid hp
  clear A a2 hp hb htk
  go_enter Tryz.func8, Tryz.ntmps8
  go_wp2_with fail
  refine T.out.mono ?_
  rintro e w2 ⟨rfl, rfl⟩
  go_wp2_with fail
  go_ret2
  exact ⟨by rw [← HP.out]; rfl, A2.out, (Upd.refl _ _).set _ _⟩
end
end Go.Proofs.YtniagcbajjmopaaGreat
