/-
  Exact contracts of the functions that copy a struct: which blocks they make.
-/
import Derived.Test.YtccejaneammplaaKA
namespace Go.Proofs.Ytccejaneammplaa
open Go.RowKit


end Go.Proofs.Ytccejaneammplaa
