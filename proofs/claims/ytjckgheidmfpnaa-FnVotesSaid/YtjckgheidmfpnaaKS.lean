/-
  Contracts of functions over slices of numbers.
-/
import Derived.Test.YtjckgheidmfpnaaKZ
import Derived.Test.YtjckgheidmfpnaaPs
import Derived.Lib.Hide
namespace Go.Proofs.Ytjckgheidmfpnaa
open Go.RowKit
set_option linter.unusedVariables false
set_option linter.unusedSimpArgs false


end Go.Proofs.Ytjckgheidmfpnaa
