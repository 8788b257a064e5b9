/-
  Contracts: copies, comparisons and marks of slices of numbers.
-/
import Derived.Test.YtjckgheidmfpnaaKS
import Derived.Test.YtjckgheidmfpnaaPk
namespace Go.Proofs.Ytjckgheidmfpnaa
open Go.RowKit
set_option linter.unusedVariables false
set_option linter.unusedSimpArgs false


end Go.Proofs.Ytjckgheidmfpnaa
