/-
  Contracts of the controller's step.
-/
import Derived.Test.YteccpafoojkmjaaGreatDoorKC
import Derived.Test.YteccpafoojkmjaaGreatDoorM1
namespace Go.Proofs.YteccpafoojkmjaaGreatDoor
open Go.RowKit
set_option linter.unusedVariables false
set_option linter.unusedSimpArgs false


end Go.Proofs.YteccpafoojkmjaaGreatDoor
