/- ExplainAllows: for every input the law returns true and leaves what came in as it was; the variables of the library that it meets are tied to the program's text. -/
import Derived.Test.YtacjhbbieeliaaaGreatDoorHPbXAllows
set_option linter.unusedSimpArgs false
set_option maxHeartbeats 16000000
set_option maxRecDepth 100000
set_option linter.unusedVariables false
namespace Go.Proofs.YtacjhbbieeliaaaGreatDoor
open Go.ChangeShapes Go.WideShapes Go.ChangeAt Go.RowKit
open Go.ChangeMaps (open_string shut_string)
set_option linter.unusedVariables false
theorem explainAllows_holds : Rows.ExplainAllowsCardSaid :=
 Claim7.holds_tied_plain_at .later [] [.data, .pinned] true _ true
  explainAllows_over (fun _ h => by cases h) (by kernel_rfl) (fun _ h => by cases h) explainAllows_row_tie rfl ⟨rfl, rfl⟩ (by kernel_rfl) rfl
  (fun f fn hf hfn => by
   obtain rfl : f = 3 := Option.some.inj ((show Tryz.prog.funcNamed "fedchat/fedchatlaw60.ExplainAllows" = some 3 by kernel_rfl).symm.trans hf) |>.symm
   obtain rfl : fn = Tryz.f3 := (Option.some.inj (Tryz.func3.symm.trans hfn)).symm
   exact ⟨by kernel_rfl, fun j t ht => by
    rw [Tryz.params3] at ht
    rcases j with _ | _ | j
    ·obtain rfl : t = 34 := by simpa using ht.symm
     exact (show Tryz.prog.wantsStandIn 34 = false by kernel_rfl)
    ·obtain rfl : t = 35 := by simpa using ht.symm
     exact (show Tryz.prog.wantsStandIn 35 = false by kernel_rfl)
    ·simp at ht⟩)
  (by kernel_rfl)
#print axioms explainAllows_holds
end Go.Proofs.YtacjhbbieeliaaaGreatDoor
