-- PRINTED BY print.sh 35421559b90ae4d0a3588c463048766b98c2df88dd9212a6774a882060cdf62d: not written by this session
import Derived.Test.YtligfiholinohaaPCodeNamesx0
namespace Go.Proofs.Ytligfiholinohaa.PCodeNames
open Go.RowKit Go.Proofs.YtligfiholinohaaW.PrintWords Go.Proofs.YtligfiholinohaaW.PrintLast Go.Proofs.YtligfiholinohaaW.PrintMore
attribute [local go_sem] max2_int min2_int max_two min_two max_three min_three max_four min_four   -- for this text's walks alone
set_option linter.unusedVariables false
set_option linter.unusedSimpArgs false

/-! ### quorumlaw4_CodeNames: function 3 -/
def quorumlaw4_CodeNames.f  : Option (Bool) := some true
set_option maxHeartbeats 8000000 in
set_option maxRecDepth 100000 in
theorem quorumlaw4_CodeNames.calls  (r : Bool) (w : World) (h : quorumlaw4_CodeNames.f  = some r) :
    Calls Try.prog 3 #[] w fun e w' => e = .returned (.bool r) ∧ Drawn0 w w' := by
  have H : (some true) = some r := h
  clear h
  obtain rfl := Option.some.inj H
  go_enter Try.func3, Try.ntmps3
  go_wp2
  go_ret
  exact ⟨by first | rfl | (simp; done) | (simp [*]; done), by repeat (first | exact Drawn0.refl _ | apply Drawn0.step)⟩

/-- THE ONE PURE STATEMENT of quorumlaw4_CodeNames: yours. -/
def quorumlaw4_CodeNames.Pure : Prop := quorumlaw4_CodeNames.f  = some true
theorem quorumlaw4_CodeNames.walk (P : quorumlaw4_CodeNames.Pure)  (w : World)  :
    Calls Try.prog 3 #[] w fun e w' => e = .returned (.bool true) ∧ Below w.heap.size w w' := by
  have h := P  
  refine (quorumlaw4_CodeNames.calls  true w h).mono ?_
  rintro e w' ⟨rfl, hd⟩
  exact ⟨rfl, hd.below⟩

end Go.Proofs.Ytligfiholinohaa.PCodeNames
