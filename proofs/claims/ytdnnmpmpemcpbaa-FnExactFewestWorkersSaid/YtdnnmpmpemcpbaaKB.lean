/-
  Contracts of functions on brakes, states and doors.
-/
import Derived.Test.YtdnnmpmpemcpbaaKA
namespace Go.Proofs.Ytdnnmpmpemcpbaa
open Go.RowKit


theorem laws_toDoor (p : Int) (k : Int) (r : Int) (w : World) : Calls Try.prog 10 #[.agg #[.int .i64 p, .int .i64 k, .int .i64 r]] w fun e w' => e = .returned (.agg #[.int .i64 p, .int .i64 k, .int .i64 r]) ∧ Below w.heap.size w w' := by
  go_enter Try.func10, Try.ntmps10
  go_wp2
  go_returns
  exact ⟨rfl, by go_grown⟩

theorem laws_eqDoor_same (p : Int) (k : Int) (r : Int) (w : World) : Calls Try.prog 13 #[.agg #[.int .i64 p, .int .i64 k, .int .i64 r], .agg #[.int .i64 p, .int .i64 k, .int .i64 r]] w fun e w' => e = .returned (.bool true) ∧ Below w.heap.size w w' := by
  go_enter Try.func13, Try.ntmps13
  go_wp2
  go_returns
  exact ⟨rfl, by go_grown⟩

end Go.Proofs.Ytdnnmpmpemcpbaa
