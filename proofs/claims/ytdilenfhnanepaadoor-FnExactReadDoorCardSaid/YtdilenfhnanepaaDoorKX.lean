/-
  Exact contracts of the functions that copy a struct: which blocks they make.
-/
import Derived.Test.YtdilenfhnanepaaDoorKA
namespace Go.Proofs.YtdilenfhnanepaaDoor
open Go.RowKit


end Go.Proofs.YtdilenfhnanepaaDoor
