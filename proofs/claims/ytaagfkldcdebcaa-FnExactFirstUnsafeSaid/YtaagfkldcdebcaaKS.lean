/-
  Contracts of functions over slices of numbers.
-/
import Derived.Test.YtaagfkldcdebcaaKZ
import Derived.Test.YtaagfkldcdebcaaPs
import Derived.Lib.Hide
namespace Go.Proofs.Ytaagfkldcdebcaa
open Go.RowKit
set_option linter.unusedVariables false
set_option linter.unusedSimpArgs false


end Go.Proofs.Ytaagfkldcdebcaa
