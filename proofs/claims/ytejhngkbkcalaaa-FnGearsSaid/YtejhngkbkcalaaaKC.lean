/-
  Contracts of more functions on brakes, states and doors.
-/
import Derived.Test.YtejhngkbkcalaaaM1
namespace Go.Proofs.Ytejhngkbkcalaaa
open Go.RowKit
set_option linter.unusedVariables false
set_option linter.unusedSimpArgs false


theorem spec_l00Max (a b : Int) (w : World) : Calls Try.prog 39 #[.int .i64 a, .int .i64 b] w fun e w' => e = .returned (.int .i64 (max a b)) ∧ w = w' := by
  by_cases h : b < a
  all_goals
    go_enter Try.func39, Try.ntmps39
    go_wp2
    go_returns
    exact ⟨by congr 1; show Value.int .i64 _ = _; congr 1; omega, rfl⟩

end Go.Proofs.Ytejhngkbkcalaaa
