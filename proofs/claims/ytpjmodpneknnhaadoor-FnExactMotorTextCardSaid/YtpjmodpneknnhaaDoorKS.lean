/-
  Contracts of functions over slices of numbers.
-/
import Derived.Test.YtpjmodpneknnhaaDoorKZ
import Derived.Test.YtpjmodpneknnhaaDoorPs
import Derived.Lib.Hide
namespace Go.Proofs.YtpjmodpneknnhaaDoor
open Go.RowKit
set_option linter.unusedVariables false
set_option linter.unusedSimpArgs false


end Go.Proofs.YtpjmodpneknnhaaDoor
