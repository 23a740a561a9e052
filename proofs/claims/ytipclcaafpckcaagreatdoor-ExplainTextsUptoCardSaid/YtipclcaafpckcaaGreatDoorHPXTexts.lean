/- ExplainTexts: where what comes in is of bulk at most 1048576 the law returns true and leaves it as it was; the variables of the library that it meets are tied to the program's text. -/
import Derived.Test.YtipclcaafpckcaaGreatDoorHPbXTexts
set_option linter.unusedSimpArgs false
set_option maxHeartbeats 16000000
set_option maxRecDepth 100000
set_option linter.unusedVariables false
namespace Go.Proofs.YtipclcaafpckcaaGreatDoor
open Go.ChangeShapes Go.WideShapes Go.ChangeAt Go.RowKit
set_option linter.unusedVariables false
theorem explainTextsUpto_holds : Rows.ExplainTextsUptoCardSaid :=
 Claim7.holds_tied_plain_at .later [] _ _ _ _ explainTextsUpto_over (fun _ h => by cases h) (by kernel_rfl) (fun _ h => by cases h) explainTextsUpto_row_tie rfl ⟨rfl, rfl⟩ (by kernel_rfl) rfl
  (fun f fn hf hfn => by
   obtain rfl : f = 3 := Option.some.inj ((show Tryz.prog.funcNamed "fedchat/fedchatlaw60.ExplainTexts" = some 3 by kernel_rfl).symm.trans hf) |>.symm
   obtain rfl : fn = Tryz.f3 := (Option.some.inj (Tryz.func3.symm.trans hfn)).symm
   exact ⟨by kernel_rfl, fun j t ht => by
    rw [Tryz.params3] at ht
    rcases j with _ | _ | _ | j
    ·obtain rfl : t = 25 := by simpa using ht.symm
     exact (show Tryz.prog.wantsStandIn 25 = false by kernel_rfl)
    ·obtain rfl : t = 25 := by simpa using ht.symm
     exact (show Tryz.prog.wantsStandIn 25 = false by kernel_rfl)
    ·obtain rfl : t = 3 := by simpa using ht.symm
     exact (show Tryz.prog.wantsStandIn 3 = false by kernel_rfl)
    ·simp at ht⟩)
  (by kernel_rfl)
#print axioms explainTextsUpto_holds
end Go.Proofs.YtipclcaafpckcaaGreatDoor
