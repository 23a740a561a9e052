/- ExplainRules: for every input the law returns true and leaves what came in as it was; the variables of the library that it meets are tied to the program's text. -/
import Derived.Test.YtacjhbbieeliaaaGreatDoorHPbXRules
set_option linter.unusedSimpArgs false
set_option maxHeartbeats 16000000
set_option maxRecDepth 100000
set_option linter.unusedVariables false
namespace Go.Proofs.YtacjhbbieeliaaaGreatDoor
open Go.ChangeShapes Go.WideShapes Go.ChangeAt Go.RowKit
open Go.ChangeMaps (open_string shut_string)
set_option linter.unusedVariables false
theorem explainRules_holds : Rows.ExplainRulesCardSaid :=
 Claim7.holds_tied_plain_at .later [] [.data, .pinned] true _ true
  explainRules_over (fun _ h => by cases h) (by kernel_rfl) (fun _ h => by cases h) explainRules_row_tie rfl ⟨rfl, rfl⟩ (by kernel_rfl) rfl
  (fun f fn hf hfn => by
   obtain rfl : f = 4 := Option.some.inj ((show Tryz.prog.funcNamed "fedchat/fedchatlaw60.ExplainRules" = some 4 by kernel_rfl).symm.trans hf) |>.symm
   obtain rfl : fn = Tryz.f4 := (Option.some.inj (Tryz.func4.symm.trans hfn)).symm
   exact ⟨by kernel_rfl, fun j t ht => by
    rw [Tryz.params4] at ht
    rcases j with _ | _ | j
    ·obtain rfl : t = 34 := by simpa using ht.symm
     exact (show Tryz.prog.wantsStandIn 34 = false by kernel_rfl)
    ·obtain rfl : t = 35 := by simpa using ht.symm
     exact (show Tryz.prog.wantsStandIn 35 = false by kernel_rfl)
    ·simp at ht⟩)
  (by kernel_rfl)
#print axioms explainRules_holds
end Go.Proofs.YtacjhbbieeliaaaGreatDoor
