/-
  Contracts of more functions that ask whether a number lies in a range.
-/
import Derived.Test.YtccejaneammplaaKA
namespace Go.Proofs.Ytccejaneammplaa
open Go.RowKit
set_option linter.unusedVariables false
set_option linter.unusedSimpArgs false


end Go.Proofs.Ytccejaneammplaa
