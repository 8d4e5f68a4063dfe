/- The base point; the document's d. -/
import Derived.Test.YtbgpgbfiadhddaaDoorPtPls
import Derived.Test.YtbgpgbfiadhddaaDoorPtBase
import Derived.Test.YtbgpgbfiadhddaaDoorRefV
namespace Go.Proofs.YtbgpgbfiadhddaaDoor
open Go Go.RowKit
theorem baseS_enc : baseS = encS pB := by
  unfold encS
  rw [encN_B]
  decide +kernel
theorem dec_base : decP baseS = pB := by rw [baseS_enc]; exact (dec_enc pB).2
theorem base_v (w : World) : Calls Tryd.prog 5 #[] w (Gives w (PtV pB)) := dec_base ▸ pbase_v w
theorem toS_DN : toS DN = ⟨#[163, 120, 89, 19, 202, 77, 235, 117, 171, 216, 65, 65, 77, 10, 112, 0, 152, 232, 121, 119, 121, 64, 199, 140, 115, 254, 111, 43, 238, 108, 3, 82]⟩ := by decide +kernel
set_option maxRecDepth 100000 in
set_option maxHeartbeats 4000000 in
theorem rd_v (w : World) : Calls Tryd.prog 33 #[] w (Gives w (isS (toS DN))) := by
  rw [toS_DN]
  go_enter Tryd.func33, Tryd.ntmps33
  go_wp2_with fail
  go_ret
  exact ⟨_, rfl, rfl, Touch.refl _ _⟩
end Go.Proofs.YtbgpgbfiadhddaaDoor
