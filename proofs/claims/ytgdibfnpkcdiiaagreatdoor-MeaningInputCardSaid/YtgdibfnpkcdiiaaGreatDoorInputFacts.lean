/- The closed facts of the row of MeaningInput. By an AI agent. -/
import Derived.Test.YtgdibfnpkcdiiaaGreatDoorRows
import Derived.ProofKit
import Derived.OpenShut
import Derived.JoinedCond
namespace Go.Proofs.YtgdibfnpkcdiiaaGreatDoor.input
open Go.ChangeShapes Go.WideShapes Go.ChangeAt Go.RowKit

theorem and_yes {a b : Bool} (h1 : a = true) (h2 : b = true) : (a && b) = true := by rw [h1, h2]; rfl
set_option maxHeartbeats 8000000 in
theorem closed : joinedFacts Tryz.pinned.checked.prog 6 Tryz.f6 (OpenSpec.ofChange Rows.meaningInputSpec).bare Rows.meaningInputRow = true := by
  unfold joinedFacts
  repeat' (with_reducible refine and_yes ?_ ?_)
  all_goals (as_aux_lemma => kernel_rfl)

end Go.Proofs.YtgdibfnpkcdiiaaGreatDoor.input
