/-
  Contracts: events one after another, in the reference.
-/
import Derived.Test.YtccejaneammplaaKN
import Derived.Test.YtccejaneammplaaKM
import Derived.Test.YtccejaneammplaaKH2
import Derived.Test.YtccejaneammplaaPy
import Derived.Deep.DeepCutAuto
namespace Go.Proofs.Ytccejaneammplaa
open Go.RowKit
set_option linter.unusedVariables false
set_option linter.unusedSimpArgs false


end Go.Proofs.Ytccejaneammplaa
