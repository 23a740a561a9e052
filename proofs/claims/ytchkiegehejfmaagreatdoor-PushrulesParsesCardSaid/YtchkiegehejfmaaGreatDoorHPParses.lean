/- PushrulesParses: for every input the law returns true and leaves what came in as it was; the variables of the library that it meets are tied to the program's text. -/
import Derived.Test.YtchkiegehejfmaaGreatDoorHPbParses
set_option linter.unusedSimpArgs false
set_option maxHeartbeats 16000000
set_option maxRecDepth 100000
set_option linter.unusedVariables false
namespace Go.Proofs.YtchkiegehejfmaaGreatDoor
open Go.ChangeShapes Go.WideShapes Go.ChangeAt Go.RowKit
open Go.ChangeMaps (open_string shut_string)
set_option linter.unusedVariables false
theorem pushrulesParses_holds : Rows.PushrulesParsesCardSaid :=
 Claim7.holds_tied_plain_at .later [] [.data, .pinned] true _ true
  pushrulesParses_over (fun _ h => by cases h) (by kernel_rfl) (fun _ h => by cases h) pushrulesParses_row_tie rfl ⟨rfl, rfl⟩ (by kernel_rfl) rfl
  (fun f fn hf hfn => by
   obtain rfl : f = 3 := Option.some.inj ((show Tryz.prog.funcNamed "fedchat/fedchatlaw59.PushrulesParses" = some 3 by kernel_rfl).symm.trans hf) |>.symm
   obtain rfl : fn = Tryz.f3 := (Option.some.inj (Tryz.func3.symm.trans hfn)).symm
   exact ⟨by kernel_rfl, fun j t ht => by
    rw [Tryz.params3] at ht
    have h9 : t = 9 := by
     rcases j with _ | j
     ·simpa using ht.symm
     ·simp at ht
    subst h9
    exact (show Tryz.prog.wantsStandIn 9 = false by kernel_rfl)⟩)
  (by kernel_rfl)
#print axioms pushrulesParses_holds
end Go.Proofs.YtchkiegehejfmaaGreatDoor
