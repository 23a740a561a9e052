/- The text PcXAllows. -/
import Derived.Test.YtacjhbbieeliaaaGreatDoorRows
import Derived.ProofKit
import Derived.ChangeOld
import Derived.Handed
set_option linter.unusedSimpArgs false
set_option maxHeartbeats 16000000
set_option maxRecDepth 100000
set_option linter.unusedVariables false
namespace Go.Proofs.YtacjhbbieeliaaaGreatDoor
open Go.ChangeShapes Go.WideShapes Go.ChangeAt Go.RowKit
set_option linter.unusedVariables false
theorem closedAllows : joinedFacts Tryz.pinned.checked.prog 3 Tryz.f3 Rows.explainAllowsSpec Rows.explainAllowsRow = true := by
 unfold joinedFacts
 repeat' with_reducible refine (Bool.and_eq_true _ _).mpr ⟨?_, ?_⟩
 all_goals (as_aux_lemma => kernel_rfl)
end Go.Proofs.YtacjhbbieeliaaaGreatDoor
