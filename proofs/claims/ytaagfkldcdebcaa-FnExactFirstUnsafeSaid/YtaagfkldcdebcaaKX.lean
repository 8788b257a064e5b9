/-
  Exact contracts of the functions that copy a struct: which blocks they make.
-/
import Derived.Test.YtaagfkldcdebcaaKA
namespace Go.Proofs.Ytaagfkldcdebcaa
open Go.RowKit


theorem laws_toBrake_x (d : Int) (f : Int) (w : World) : Calls Try.prog 11 #[.agg #[.int .i64 d, .int .i64 f]] w fun e' w' => e' = .returned (.agg #[.int .i64 d, .int .i64 f]) ∧ ((w.alloc (.cells #[.int .i64 d, .int .i64 f] 26)).alloc (.cells #[.int .i64 d, .int .i64 f] 34)).alloc (.cells #[.int .i64 d, .int .i64 f] 34) = w' := by
  go_enter Try.func11, Try.ntmps11
  go_wp2
  go_returns
  exact ⟨rfl, rfl⟩

theorem laws_toProfile_x (a : Int) (b : Int) (c : Int) (d : Int) (w : World) : Calls Try.prog 17 #[.agg #[.int .i64 a, .int .i64 b, .int .i64 c, .int .i64 d]] w fun e' w' => e' = .returned (.agg #[.int .i64 a, .int .i64 b, .int .i64 c, .int .i64 d]) ∧ ((w.alloc (.cells #[.int .i64 a, .int .i64 b, .int .i64 c, .int .i64 d] 40)).alloc (.cells #[.int .i64 a, .int .i64 b, .int .i64 c, .int .i64 d] 42)).alloc (.cells #[.int .i64 a, .int .i64 b, .int .i64 c, .int .i64 d] 42) = w' := by
  go_enter Try.func17, Try.ntmps17
  go_wp2
  go_returns
  exact ⟨rfl, rfl⟩

end Go.Proofs.Ytaagfkldcdebcaa
