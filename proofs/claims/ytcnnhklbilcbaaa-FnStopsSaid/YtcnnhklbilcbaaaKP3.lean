/-
  Contract: the first unsafe second of a ride, in the reference.
-/
import Derived.Test.YtcnnhklbilcbaaaKO3
namespace Go.Proofs.Ytcnnhklbilcbaaa
open Go.RowKit
set_option linter.unusedVariables false
set_option linter.unusedSimpArgs false


end Go.Proofs.Ytcnnhklbilcbaaa
