/-
  Exact contracts of the functions that copy a struct: which blocks they make.
-/
import Derived.Test.YtjckgheidmfpnaaKA
namespace Go.Proofs.Ytjckgheidmfpnaa
open Go.RowKit


end Go.Proofs.Ytjckgheidmfpnaa
