/-
  Contracts of more functions on brakes, states and doors.
-/
import Derived.Test.YtccejaneammplaaKB
import Derived.Test.YtccejaneammplaaQt
namespace Go.Proofs.Ytccejaneammplaa
open Go.RowKit
set_option linter.unusedVariables false
set_option linter.unusedSimpArgs false


end Go.Proofs.Ytccejaneammplaa
