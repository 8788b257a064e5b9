/-
  Contracts of more functions that ask whether a number lies in a range.
-/
import Derived.Test.YtaagfkldcdebcaaKA
namespace Go.Proofs.Ytaagfkldcdebcaa
open Go.RowKit
set_option linter.unusedVariables false
set_option linter.unusedSimpArgs false


theorem spec_l09Way (n : Int) (w : World) : Calls Try.prog 89 #[.int .i64 n] w fun e w' => e = .returned (.bool (inB n 0 3000000)) ∧ w = w' := by
  go_enter Try.func89, Try.ntmps89
  go_wp2_with (go_at_call 74; go_call spec_l00In as e w' ⟨rfl, rfl⟩)
  go_returns
  exact ⟨rfl, rfl⟩

end Go.Proofs.Ytaagfkldcdebcaa
