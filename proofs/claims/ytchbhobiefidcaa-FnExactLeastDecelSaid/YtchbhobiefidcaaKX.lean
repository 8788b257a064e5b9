/-
  Exact contracts of the functions that copy a struct: which blocks they make.
-/
import Derived.Test.YtchbhobiefidcaaKA
namespace Go.Proofs.Ytchbhobiefidcaa
open Go.RowKit


theorem laws_toBrake_x (d : Int) (f : Int) (w : World) : Calls Try.prog 12 #[.agg #[.int .i64 d, .int .i64 f]] w fun e' w' => e' = .returned (.agg #[.int .i64 d, .int .i64 f]) ∧ ((w.alloc (.cells #[.int .i64 d, .int .i64 f] 23)).alloc (.cells #[.int .i64 d, .int .i64 f] 26)).alloc (.cells #[.int .i64 d, .int .i64 f] 26) = w' := by
  go_enter Try.func12, Try.ntmps12
  go_wp2
  go_returns
  exact ⟨rfl, rfl⟩

theorem laws_toProfile_x (a : Int) (b : Int) (c : Int) (d : Int) (w : World) : Calls Try.prog 28 #[.agg #[.int .i64 a, .int .i64 b, .int .i64 c, .int .i64 d]] w fun e' w' => e' = .returned (.agg #[.int .i64 a, .int .i64 b, .int .i64 c, .int .i64 d]) ∧ ((w.alloc (.cells #[.int .i64 a, .int .i64 b, .int .i64 c, .int .i64 d] 44)).alloc (.cells #[.int .i64 a, .int .i64 b, .int .i64 c, .int .i64 d] 46)).alloc (.cells #[.int .i64 a, .int .i64 b, .int .i64 c, .int .i64 d] 46) = w' := by
  go_enter Try.func28, Try.ntmps28
  go_wp2
  go_returns
  exact ⟨rfl, rfl⟩

end Go.Proofs.Ytchbhobiefidcaa
