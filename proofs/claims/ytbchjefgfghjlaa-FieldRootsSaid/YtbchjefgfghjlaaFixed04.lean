/- syngraphlaw04.fixed: what it is to answer true (shown in XFixed04b). -/
import Derived.Test.YtbchjefgfghjlaaFLaws
namespace Go.Proofs.Ytbchjefgfghjlaa
open Go.RowKit
def FixedOk : Prop := ∀ w : World, Calls Try.prog 27 #[] w fun e w' => e = .returned (.bool true) ∧ Touch [] w w'
theorem fixed_v (h : FixedOk) (w : World) : Calls Try.prog 27 #[] w (Gives w (isB true)) :=
  (h w).mono fun _ _ ⟨he, ht⟩ => ⟨_, he, rfl, ht⟩
end Go.Proofs.Ytbchjefgfghjlaa
