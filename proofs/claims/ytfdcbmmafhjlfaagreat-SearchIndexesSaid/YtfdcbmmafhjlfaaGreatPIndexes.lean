/- SearchIndexes: for every slice of events the law returns true and leaves what came in as it was. -/
import Derived.Test.YtfdcbmmafhjlfaaGreatCIndexes
namespace Go.Proofs.YtfdcbmmafhjlfaaGreat
open Go.ChangeShapes Go.WideShapes Go.ChangeAt Go.RowKit
open Go.ChangeMaps (open_string shut_string)
set_option linter.unusedVariables false      -- a walk need not use every 'w<i>' (that an integer argument fits its kind)

theorem over : Rows.searchIndexesRow.holds Tryz.pinned (OpenSpec.ofChange Rows.searchIndexesSpec) :=
  OpenClaim.holds_of_wide 4 Tryz.f4 rfl rfl rfl rfl rfl rfl rfl ⟨rfl, rfl, rfl, rfl, rfl⟩ rfl rfl rfl rfl rfl (by kernel_rfl) Tryz.func4 closed
    (of_decide_eq_true (by kernel_rfl)) (by unfold Func.isWrapper; first | (rw [if_pos (by decide +kernel)]; kernel_rfl) | (rw [if_neg (by decide +kernel)]; exact ⟨rfl, rfl⟩))
    (fun os started H enc _ => lifted os started H enc)

theorem searchIndexes_holds : Rows.SearchIndexesSaid :=
  over
#print axioms searchIndexes_holds
end Go.Proofs.YtfdcbmmafhjlfaaGreat
