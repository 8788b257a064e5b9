/-
  Contracts: the nearest switch.
-/
import Derived.Test.YtjckgheidmfpnaaKI
import Derived.Test.YtjckgheidmfpnaaKE
import Derived.Test.YtjckgheidmfpnaaPg
import Derived.Test.YtjckgheidmfpnaaQt
namespace Go.Proofs.Ytjckgheidmfpnaa
open Go.RowKit
set_option linter.unusedVariables false
set_option linter.unusedSimpArgs false


end Go.Proofs.Ytjckgheidmfpnaa
