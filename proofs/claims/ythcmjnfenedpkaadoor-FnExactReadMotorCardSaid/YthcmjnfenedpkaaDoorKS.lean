/-
  Contracts of functions over slices of numbers.
-/
import Derived.Test.YthcmjnfenedpkaaDoorM1
import Derived.Lib.Hide
namespace Go.Proofs.YthcmjnfenedpkaaDoor
open Go.RowKit
set_option linter.unusedVariables false
set_option linter.unusedSimpArgs false


end Go.Proofs.YthcmjnfenedpkaaDoor
