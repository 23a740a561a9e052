/- ArchiveEvents: what the row asks of the program beside the walk, part by part. -/
import Derived.Test.YteadlcncnhbmjaaGreatDoorRows
import Derived.ProofKit
import Derived.ChangeOld
import Derived.Handed
set_option linter.unusedSimpArgs false
set_option linter.unusedVariables false
namespace Go.Proofs.YteadlcncnhbmjaaGreatDoor
open Go.ChangeShapes Go.WideShapes Go.ChangeAt Go.RowKit
set_option linter.unusedVariables false

set_option maxHeartbeats 4000000 in
theorem closedEvents : joinedFacts Tryz.pinned.checked.prog 5 Tryz.f5 Rows.archiveEventsSpec Rows.archiveEventsRow = true := by
  unfold joinedFacts
  repeat' with_reducible refine (Bool.and_eq_true _ _).mpr ⟨?_, ?_⟩
  all_goals kernel_rfl
end Go.Proofs.YteadlcncnhbmjaaGreatDoor
