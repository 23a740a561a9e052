/- The text PRooms. -/
import Derived.Test.YteadlcncnhbmjaaGreatDoorHPbRooms
set_option linter.unusedSimpArgs false
set_option maxHeartbeats 16000000
set_option maxRecDepth 100000
set_option linter.unusedVariables false
namespace Go.Proofs.YteadlcncnhbmjaaGreatDoor
open Go.ChangeShapes Go.WideShapes Go.ChangeAt Go.RowKit
open Go.ChangeMaps (open_string shut_string)
set_option linter.unusedVariables false
theorem archiveRooms_holds : Rows.ArchiveRoomsCardSaid :=
 Claim7.holds_tied_plain_at .later [] [.data, .data, .data, .data, .sentinel, .sentinel, .pinned] true _ true
  archiveRooms_over (fun _ h => by cases h) (by kernel_rfl) (fun _ h => by cases h) archiveRooms_row_tie rfl ⟨rfl, rfl⟩ (by kernel_rfl) rfl
  (fun f fn hf hfn => by
   obtain rfl : f = 7 := Option.some.inj ((show Tryz.prog.funcNamed "fedchat/fedchatlaw58.ArchiveRooms" = some 7 by kernel_rfl).symm.trans hf) |>.symm
   obtain rfl : fn = Tryz.f7 := (Option.some.inj (Tryz.func7.symm.trans hfn)).symm
   exact ⟨by kernel_rfl, fun j t ht => by
    rw [Tryz.params7] at ht
    rcases j with _ | j
    ·obtain rfl : t = 55 := by simpa using ht.symm
     exact (show Tryz.prog.wantsStandIn 55 = false by kernel_rfl)
    ·simp at ht⟩)
  (by kernel_rfl)
#print axioms archiveRooms_holds
end Go.Proofs.YteadlcncnhbmjaaGreatDoor
