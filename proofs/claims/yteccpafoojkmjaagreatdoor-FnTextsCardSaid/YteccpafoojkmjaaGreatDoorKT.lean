/-
  Contract of the reference's text of a state.
-/
import Derived.Test.YteccpafoojkmjaaGreatDoorKC
namespace Go.Proofs.YteccpafoojkmjaaGreatDoor
open Go.RowKit
set_option linter.unusedVariables false
set_option linter.unusedSimpArgs false


end Go.Proofs.YteccpafoojkmjaaGreatDoor
