/-
  Contracts of more functions that ask whether a number lies in a range.
-/
import Derived.Test.YtpmdkadfmieieaaKA
namespace Go.Proofs.Ytpmdkadfmieieaa
open Go.RowKit
set_option linter.unusedVariables false
set_option linter.unusedSimpArgs false


end Go.Proofs.Ytpmdkadfmieieaa
