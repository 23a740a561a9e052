/- The text Ar3. -/
import Derived.Test.YteadlcncnhbmjaaGreatDoorMsas
import Derived.Test.YteadlcncnhbmjaaGreatDoorMsap
set_option linter.unusedSimpArgs false
set_option maxHeartbeats 16000000
set_option maxRecDepth 100000
set_option linter.unusedVariables false
namespace Go.Proofs.YteadlcncnhbmjaaGreatDoor
open Go.RowKit Go.Lib
end Go.Proofs.YteadlcncnhbmjaaGreatDoor
