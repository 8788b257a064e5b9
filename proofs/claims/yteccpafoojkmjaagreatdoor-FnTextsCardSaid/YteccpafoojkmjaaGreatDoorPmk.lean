/-
  Valid motors: the contracts of both sides.
-/
import Derived.Test.YteccpafoojkmjaaGreatDoorM1
import Derived.Test.YteccpafoojkmjaaGreatDoorPmp
namespace Go.Proofs.YteccpafoojkmjaaGreatDoor
open Go.RowKit
set_option linter.unusedVariables false
set_option linter.unusedSimpArgs false


end Go.Proofs.YteccpafoojkmjaaGreatDoor
