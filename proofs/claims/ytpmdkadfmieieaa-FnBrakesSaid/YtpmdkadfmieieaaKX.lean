/-
  Exact contracts of the functions that copy a struct: which blocks they make.
-/
import Derived.Test.YtpmdkadfmieieaaKA
namespace Go.Proofs.Ytpmdkadfmieieaa
open Go.RowKit


end Go.Proofs.Ytpmdkadfmieieaa
