/-
  Contracts of functions on brakes, states and doors.
-/
import Derived.Test.YtlkcnflhofophaaKA
namespace Go.Proofs.Ytlkcnflhofophaa
open Go.RowKit


end Go.Proofs.Ytlkcnflhofophaa
