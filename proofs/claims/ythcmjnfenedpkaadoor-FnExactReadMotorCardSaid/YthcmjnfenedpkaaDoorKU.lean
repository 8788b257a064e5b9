/-
  Contracts of the steps of a door.
-/
import Derived.Test.YthcmjnfenedpkaaDoorKC
import Derived.Test.YthcmjnfenedpkaaDoorM1
namespace Go.Proofs.YthcmjnfenedpkaaDoor
open Go.RowKit
set_option linter.unusedVariables false
set_option linter.unusedSimpArgs false


end Go.Proofs.YthcmjnfenedpkaaDoor
