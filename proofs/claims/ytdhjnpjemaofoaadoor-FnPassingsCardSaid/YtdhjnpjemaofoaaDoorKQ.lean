/-
  Contracts: readings.
-/
import Derived.Test.YtdhjnpjemaofoaaDoorKI
import Derived.Test.YtdhjnpjemaofoaaDoorKE
import Derived.Test.YtdhjnpjemaofoaaDoorM1
namespace Go.Proofs.YtdhjnpjemaofoaaDoor
open Go.RowKit
set_option linter.unusedVariables false
set_option linter.unusedSimpArgs false


theorem impl_size_int64 (a : Option Addr) (n c : Nat) (w : World) (hn : n ≤ 1048576) : Calls Tryd.prog 50 #[.slice a n c] w fun e w' => e = .returned (.int .i64 n) ∧ w = w' := by
  go_enter Tryd.func50, Tryd.ntmps50
  go_wp2
  go_returns
  exact ⟨rfl, rfl⟩

end Go.Proofs.YtdhjnpjemaofoaaDoor
