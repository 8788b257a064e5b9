/-
  Contracts: passings and brakes read by the program; the walks of the laws.
-/
import Derived.Test.YteccpafoojkmjaaGreatDoorRd
import Derived.Test.YteccpafoojkmjaaGreatDoorNk
namespace Go.Proofs.YteccpafoojkmjaaGreatDoor
open Go.RowKit
set_option linter.unusedVariables false
set_option linter.unusedSimpArgs false


theorem ba_eq {a b : ByteArray} (h : a = b) : (a.toList == b.toList) = true := by rw [h]; simp

end Go.Proofs.YteccpafoojkmjaaGreatDoor
