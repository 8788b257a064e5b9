/-
  Exact contracts of the functions that copy a struct: which blocks they make.
-/
import Derived.Test.YtlkcnflhofophaaKA
namespace Go.Proofs.Ytlkcnflhofophaa
open Go.RowKit


theorem laws_toPassing_x (i : Int) (j : Int) (w : World) : Calls Try.prog 51 #[.agg #[.int .i64 i, .int .i64 j]] w fun e' w' => e' = .returned (.agg #[.int .i64 i, .int .i64 j]) ∧ ((w.alloc (.cells #[.int .i64 i, .int .i64 j] 51)).alloc (.cells #[.int .i64 i, .int .i64 j] 49)).alloc (.cells #[.int .i64 i, .int .i64 j] 49) = w' := by
  go_enter Try.func51, Try.ntmps51
  go_wp2
  go_returns
  exact ⟨rfl, rfl⟩

end Go.Proofs.Ytlkcnflhofophaa
