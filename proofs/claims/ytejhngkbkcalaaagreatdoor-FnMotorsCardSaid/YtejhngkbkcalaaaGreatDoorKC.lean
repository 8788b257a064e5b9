/-
  Contracts of more functions on brakes, states and doors.
-/
import Derived.Test.YtejhngkbkcalaaaGreatDoorM1
namespace Go.Proofs.YtejhngkbkcalaaaGreatDoor
open Go.RowKit
set_option linter.unusedVariables false
set_option linter.unusedSimpArgs false


end Go.Proofs.YtejhngkbkcalaaaGreatDoor
