/-
  Exact contracts of the functions that copy a struct: which blocks they make.
-/
import Derived.Test.YthoilgkhehemfaaKA
namespace Go.Proofs.Ythoilgkhehemfaa
open Go.RowKit


theorem laws_toState_x (m : Int) (o : Bool) (a : Bool) (b : Bool) (e : Bool) (w : World) : Calls Try.prog 12 #[.agg #[.int .i64 m, .bool o, .bool a, .bool b, .bool e]] w fun e' w' => e' = .returned (.agg #[.int .i64 m, .bool o, .bool a, .bool b, .bool e]) ∧ ((w.alloc (.cells #[.int .i64 m, .bool o, .bool a, .bool b, .bool e] 23)).alloc (.cells #[.int .i64 m, .bool o, .bool a, .bool b, .bool e] 27)).alloc (.cells #[.int .i64 m, .bool o, .bool a, .bool b, .bool e] 27) = w' := by
  go_enter Try.func12, Try.ntmps12
  go_wp2
  go_returns
  exact ⟨rfl, rfl⟩

theorem laws_toDoor_x (p : Int) (k : Int) (r : Int) (w : World) : Calls Try.prog 69 #[.agg #[.int .i64 p, .int .i64 k, .int .i64 r]] w fun e' w' => e' = .returned (.agg #[.int .i64 p, .int .i64 k, .int .i64 r]) ∧ ((w.alloc (.cells #[.int .i64 p, .int .i64 k, .int .i64 r] 90)).alloc (.cells #[.int .i64 p, .int .i64 k, .int .i64 r] 88)).alloc (.cells #[.int .i64 p, .int .i64 k, .int .i64 r] 88) = w' := by
  go_enter Try.func69, Try.ntmps69
  go_wp2
  go_returns
  exact ⟨rfl, rfl⟩

end Go.Proofs.Ythoilgkhehemfaa
