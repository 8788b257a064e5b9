/-
  Contracts of more functions on brakes, states and doors.
-/
import Derived.Test.YtjckgheidmfpnaaKB
import Derived.Test.YtjckgheidmfpnaaQt
namespace Go.Proofs.Ytjckgheidmfpnaa
open Go.RowKit
set_option linter.unusedVariables false
set_option linter.unusedSimpArgs false


end Go.Proofs.Ytjckgheidmfpnaa
