/-
  Contracts of functions over slices of numbers.
-/
import Derived.Test.YtccejaneammplaaKZ
import Derived.Test.YtccejaneammplaaPs
import Derived.Lib.Hide
namespace Go.Proofs.Ytccejaneammplaa
open Go.RowKit
set_option linter.unusedVariables false
set_option linter.unusedSimpArgs false


end Go.Proofs.Ytccejaneammplaa
