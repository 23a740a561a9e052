/- SearchIndexes: what the statement asks of the program beside the walk, part by part. -/
import Derived.Test.YtfdcbmmafhjlfaaGreatLIndexes
namespace Go.Proofs.YtfdcbmmafhjlfaaGreat
set_option linter.unusedVariables false

set_option maxHeartbeats 4000000 in
theorem closed : joinedFacts Tryz.pinned.checked.prog 4 Tryz.f4 Rows.searchIndexesSpec Rows.searchIndexesRow = true := by
  unfold joinedFacts
  repeat' with_reducible refine (Bool.and_eq_true _ _).mpr ⟨?_, ?_⟩
  all_goals kernel_rfl
end Go.Proofs.YtfdcbmmafhjlfaaGreat
