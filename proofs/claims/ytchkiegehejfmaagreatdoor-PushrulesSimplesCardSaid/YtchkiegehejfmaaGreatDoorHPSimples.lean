/- PushrulesSimples: for every input the law returns true and leaves what came in as it was; the variables of the library that it meets are tied to the program's text. -/
import Derived.Test.YtchkiegehejfmaaGreatDoorHPbSimples
set_option linter.unusedSimpArgs false
set_option maxHeartbeats 16000000
set_option maxRecDepth 100000
set_option linter.unusedVariables false
namespace Go.Proofs.YtchkiegehejfmaaGreatDoor
open Go.ChangeShapes Go.WideShapes Go.ChangeAt Go.RowKit
open Go.ChangeMaps (open_string shut_string)
theorem pushrulesSimples_holds : Rows.PushrulesSimplesCardSaid :=
 Claim7.holds_tied_plain_at .later [] [.data, .pinned] true _ true
  BO (fun _ h => by cases h) (by kernel_rfl) (fun _ h => by cases h) pushrulesSimples_row_tie rfl ⟨rfl, rfl⟩ (by kernel_rfl) rfl
  (fun f fn hf hfn => by
   obtain rfl : f = 5 := Option.some.inj ((show Tryz.prog.funcNamed "fedchat/fedchatlaw59.PushrulesSimples" = some 5 by kernel_rfl).symm.trans hf) |>.symm
   obtain rfl : fn = Tryz.f5 := (Option.some.inj (Tryz.func5.symm.trans hfn)).symm
   exact ⟨by kernel_rfl, fun j t ht => by
    rw [Tryz.params5] at ht;rcases j with _ | _ | _ | j
    ·obtain rfl : t = 36 := by simpa using ht.symm
     exact (show Tryz.prog.wantsStandIn 36 = false by kernel_rfl)
    ·obtain rfl : t = 36 := by simpa using ht.symm
     exact (show Tryz.prog.wantsStandIn 36 = false by kernel_rfl)
    ·obtain rfl : t = 9 := by simpa using ht.symm
     exact (show Tryz.prog.wantsStandIn 9 = false by kernel_rfl)
    ·simp at ht⟩)
  (by kernel_rfl)
#print axioms pushrulesSimples_holds
end Go.Proofs.YtchkiegehejfmaaGreatDoor
