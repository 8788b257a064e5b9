/-
  Contracts of more functions that ask whether a number lies in a range.
-/
import Derived.Test.YthoilgkhehemfaaKA
namespace Go.Proofs.Ythoilgkhehemfaa
open Go.RowKit
set_option linter.unusedVariables false
set_option linter.unusedSimpArgs false


end Go.Proofs.Ythoilgkhehemfaa
