/- save: Flag -/
import Derived.Test.YtjhicjmfdcipmaaSaveF
import Derived.Test.YtjhicjmfdcipmaaSaveFB
namespace Go.Proofs.Ytjhicjmfdcipmaa
open Go.RowKit Go.Shelf
set_option linter.unusedVariables false
set_option linter.unusedSimpArgs false
set_option maxRecDepth 100000
section
variable {w : World} {g : Nat} {bv : Value} {bs : List Int}

set_option maxHeartbeats 4000000 in
theorem flag_any (H : Wr w g bv bs) (v : Bool) (hl : bs.length ≤ 1048576) :
    Calls Try.prog 36 #[wrP' g, .bool v] w (PutP w g bv (bs ++ le 1 (if v then 1 else 0))) := by
  have B0 := Lib.hid (byte_any H 0 (by omega) (by omega) hl)
  have B1 := Lib.hid (byte_any H 1 (by omega) (by omega) hl)
  clear H
  cases v
  · go_enter Try.func36, Try.ntmps36
    go_wp2_with fail
    refine B0.out.mono ?_
    rintro e w2 ⟨rfl, hp⟩
    have HP := Lib.hid hp
    clear hp
    go_wp2_with fail
    go_end0
    exact ⟨rfl, HP.out⟩
  · go_enter Try.func36, Try.ntmps36
    go_wp2_with fail
    refine B1.out.mono ?_
    rintro e w2 ⟨rfl, hp⟩
    have HP := Lib.hid hp
    clear hp
    go_wp2_with fail
    go_end0
    exact ⟨rfl, HP.out⟩


end
end Go.Proofs.Ytjhicjmfdcipmaa
