/-
  Exact contracts of the functions that copy a struct: which blocks they make.
-/
import Derived.Test.YtjfpiadjbhnljaaKA
namespace Go.Proofs.Ytjfpiadjbhnljaa
open Go.RowKit


theorem laws_toState_x (m : Int) (o : Bool) (a : Bool) (b : Bool) (e : Bool) (w : World) : Calls Try.prog 11 #[.agg #[.int .i64 m, .bool o, .bool a, .bool b, .bool e]] w fun e' w' => e' = .returned (.agg #[.int .i64 m, .bool o, .bool a, .bool b, .bool e]) ∧ ((w.alloc (.cells #[.int .i64 m, .bool o, .bool a, .bool b, .bool e] 28)).alloc (.cells #[.int .i64 m, .bool o, .bool a, .bool b, .bool e] 23)).alloc (.cells #[.int .i64 m, .bool o, .bool a, .bool b, .bool e] 23) = w' := by
  go_enter Try.func11, Try.ntmps11
  go_wp2
  go_returns
  exact ⟨rfl, rfl⟩

end Go.Proofs.Ytjfpiadjbhnljaa
