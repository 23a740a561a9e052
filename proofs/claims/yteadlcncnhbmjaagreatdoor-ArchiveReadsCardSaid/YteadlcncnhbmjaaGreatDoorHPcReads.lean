/- The text PcReads. -/
import Derived.Test.YteadlcncnhbmjaaGreatDoorRows
import Derived.ProofKit
import Derived.ChangeOld
import Derived.Handed
set_option linter.unusedSimpArgs false
set_option maxHeartbeats 16000000
set_option maxRecDepth 100000
set_option linter.unusedVariables false
namespace Go.Proofs.YteadlcncnhbmjaaGreatDoor
open Go.ChangeShapes Go.WideShapes Go.ChangeAt Go.RowKit
theorem closedReads : joinedFacts Tryz.pinned.checked.prog 8 Tryz.f8 Rows.archiveReadsSpec Rows.archiveReadsRow = true := by
 unfold joinedFacts
 repeat' with_reducible refine (Bool.and_eq_true _ _).mpr ⟨?_, ?_⟩
 all_goals (as_aux_lemma => kernel_rfl)
end Go.Proofs.YteadlcncnhbmjaaGreatDoor
