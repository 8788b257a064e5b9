/-
  Contracts: copies, comparisons and marks of slices of numbers.
-/
import Derived.Test.YtaagfkldcdebcaaKS
import Derived.Test.YtaagfkldcdebcaaPk
namespace Go.Proofs.Ytaagfkldcdebcaa
open Go.RowKit
set_option linter.unusedVariables false
set_option linter.unusedSimpArgs false


end Go.Proofs.Ytaagfkldcdebcaa
