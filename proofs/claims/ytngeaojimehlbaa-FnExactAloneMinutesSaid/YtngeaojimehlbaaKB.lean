/-
  Contracts of functions on brakes, states and doors.
-/
import Derived.Test.YtngeaojimehlbaaKA
namespace Go.Proofs.Ytngeaojimehlbaa
open Go.RowKit


end Go.Proofs.Ytngeaojimehlbaa
