/-
  Contracts: speed profiles: valid ones; the speed of the next second.
-/
import Derived.Test.YteccpafoojkmjaaGreatDoorM1
import Derived.Test.YteccpafoojkmjaaGreatDoorKC
import Derived.Test.YteccpafoojkmjaaGreatDoorKL
import Derived.Test.YteccpafoojkmjaaGreatDoorPpf
import Derived.Lib.Hide
namespace Go.Proofs.YteccpafoojkmjaaGreatDoor
open Go.RowKit
set_option linter.unusedVariables false
set_option linter.unusedSimpArgs false


theorem impl_ValidProfile (a r c y : Int) (w : World) : Calls Tryz.prog 17 #[.agg #[.int .i64 a, .int .i64 r, .int .i64 c, .int .i64 y]] w fun e w' => e = .returned (.bool (profOk a r c y)) ∧ Below w.heap.size w w' := by
  go_enter Tryz.func17, Tryz.ntmps17
  go_wp2_with (first | (go_at_call 35; go_call impl_within as e w' ⟨rfl, rfl⟩) | (go_at_call 36; go_call impl_isWay as e w' ⟨rfl, rfl⟩))
  all_goals
    go_returns
    exact ⟨by simp [profOk, *], by go_grown⟩

end Go.Proofs.YteccpafoojkmjaaGreatDoor
