/-
  Contracts: the nearest switch.
-/
import Derived.Test.YtngeaojimehlbaaKI
import Derived.Test.YtngeaojimehlbaaKE
import Derived.Test.YtngeaojimehlbaaPg
import Derived.Test.YtngeaojimehlbaaQt
namespace Go.Proofs.Ytngeaojimehlbaa
open Go.RowKit
set_option linter.unusedVariables false
set_option linter.unusedSimpArgs false


end Go.Proofs.Ytngeaojimehlbaa
