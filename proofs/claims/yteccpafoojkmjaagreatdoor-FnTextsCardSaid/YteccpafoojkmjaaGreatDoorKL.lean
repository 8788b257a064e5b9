/-
  Contracts: the least number of a range, safe speeds, least forces.
-/
import Derived.Test.YteccpafoojkmjaaGreatDoorKE
import Derived.Test.YteccpafoojkmjaaGreatDoorM1
import Derived.Lib.Hide
namespace Go.Proofs.YteccpafoojkmjaaGreatDoor
open Go.RowKit
set_option linter.unusedVariables false
set_option linter.unusedSimpArgs false


end Go.Proofs.YteccpafoojkmjaaGreatDoor
