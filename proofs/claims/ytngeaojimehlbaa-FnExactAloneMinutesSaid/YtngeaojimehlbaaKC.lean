/-
  Contracts of more functions on brakes, states and doors.
-/
import Derived.Test.YtngeaojimehlbaaKB
import Derived.Test.YtngeaojimehlbaaQt
namespace Go.Proofs.Ytngeaojimehlbaa
open Go.RowKit
set_option linter.unusedVariables false
set_option linter.unusedSimpArgs false


end Go.Proofs.Ytngeaojimehlbaa
