/-
  Contracts of functions over slices of numbers.
-/
import Derived.Test.YtejhngkbkcalaaaGreatDoorM1
import Derived.Lib.Hide
namespace Go.Proofs.YtejhngkbkcalaaaGreatDoor
open Go.RowKit
set_option linter.unusedVariables false
set_option linter.unusedSimpArgs false


end Go.Proofs.YtejhngkbkcalaaaGreatDoor
