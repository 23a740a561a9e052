/- ExplainPaths: for every input the law returns true and leaves what came in as it was; the variables of the library that it meets are tied to the program's text. -/
import Derived.Test.YtiidljciaccidaaGreatDoorHPbXPaths
set_option linter.unusedSimpArgs false
set_option maxHeartbeats 16000000
set_option maxRecDepth 100000
set_option linter.unusedVariables false
namespace Go.Proofs.YtiidljciaccidaaGreatDoor
open Go.ChangeShapes Go.WideShapes Go.ChangeAt Go.RowKit
open Go.ChangeMaps (open_string shut_string)
set_option linter.unusedVariables false
theorem explainPaths_holds : Rows.ExplainPathsCardSaid :=
 Claim7.holds_tied_plain_at .later [] [.data, .pinned] true _ true
  explainPaths_over (fun _ h => by cases h) (by kernel_rfl) (fun _ h => by cases h) explainPaths_row_tie rfl ⟨rfl, rfl⟩ (by kernel_rfl) rfl
  (fun f fn hf hfn => by
   obtain rfl : f = 3 := Option.some.inj ((show Tryz.prog.funcNamed "fedchat/fedchatlaw60.ExplainPaths" = some 3 by kernel_rfl).symm.trans hf) |>.symm
   obtain rfl : fn = Tryz.f3 := (Option.some.inj (Tryz.func3.symm.trans hfn)).symm
   exact ⟨by kernel_rfl, fun j t ht => by
    rw [Tryz.params3] at ht
    rcases j with _ | _ | _ | j
    ·obtain rfl : t = 22 := by simpa using ht.symm
     exact (show Tryz.prog.wantsStandIn 22 = false by kernel_rfl)
    ·obtain rfl : t = 3 := by simpa using ht.symm
     exact (show Tryz.prog.wantsStandIn 3 = false by kernel_rfl)
    ·obtain rfl : t = 3 := by simpa using ht.symm
     exact (show Tryz.prog.wantsStandIn 3 = false by kernel_rfl)
    ·simp at ht⟩)
  (by kernel_rfl)
#print axioms explainPaths_holds
end Go.Proofs.YtiidljciaccidaaGreatDoor
