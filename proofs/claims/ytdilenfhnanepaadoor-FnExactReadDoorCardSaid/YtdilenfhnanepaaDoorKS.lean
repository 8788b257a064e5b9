/-
  Contracts of functions over slices of numbers.
-/
import Derived.Test.YtdilenfhnanepaaDoorKZ
import Derived.Test.YtdilenfhnanepaaDoorPs
import Derived.Lib.Hide
namespace Go.Proofs.YtdilenfhnanepaaDoor
open Go.RowKit
set_option linter.unusedVariables false
set_option linter.unusedSimpArgs false


end Go.Proofs.YtdilenfhnanepaaDoor
