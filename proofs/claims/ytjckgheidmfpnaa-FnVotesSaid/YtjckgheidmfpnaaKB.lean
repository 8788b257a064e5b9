/-
  Contracts of functions on brakes, states and doors.
-/
import Derived.Test.YtjckgheidmfpnaaKA
namespace Go.Proofs.Ytjckgheidmfpnaa
open Go.RowKit


end Go.Proofs.Ytjckgheidmfpnaa
