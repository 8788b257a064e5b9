/-
  Exact contracts of the functions that copy a struct: which blocks they make.
-/
import Derived.Test.YtmacccijecpnpaaKA
namespace Go.Proofs.Ytmacccijecpnpaa
open Go.RowKit


theorem laws_toBrake_x (d : Int) (f : Int) (w : World) : Calls Try.prog 16 #[.agg #[.int .i64 d, .int .i64 f]] w fun e' w' => e' = .returned (.agg #[.int .i64 d, .int .i64 f]) ∧ ((w.alloc (.cells #[.int .i64 d, .int .i64 f] 23)).alloc (.cells #[.int .i64 d, .int .i64 f] 25)).alloc (.cells #[.int .i64 d, .int .i64 f] 25) = w' := by
  go_enter Try.func16, Try.ntmps16
  go_wp2
  go_returns
  exact ⟨rfl, rfl⟩

theorem laws_toState_x (m : Int) (o : Bool) (a : Bool) (b : Bool) (e : Bool) (w : World) : Calls Try.prog 21 #[.agg #[.int .i64 m, .bool o, .bool a, .bool b, .bool e]] w fun e' w' => e' = .returned (.agg #[.int .i64 m, .bool o, .bool a, .bool b, .bool e]) ∧ ((w.alloc (.cells #[.int .i64 m, .bool o, .bool a, .bool b, .bool e] 31)).alloc (.cells #[.int .i64 m, .bool o, .bool a, .bool b, .bool e] 33)).alloc (.cells #[.int .i64 m, .bool o, .bool a, .bool b, .bool e] 33) = w' := by
  go_enter Try.func21, Try.ntmps21
  go_wp2
  go_returns
  exact ⟨rfl, rfl⟩

theorem laws_toDoor_x (p : Int) (k : Int) (r : Int) (w : World) : Calls Try.prog 43 #[.agg #[.int .i64 p, .int .i64 k, .int .i64 r]] w fun e' w' => e' = .returned (.agg #[.int .i64 p, .int .i64 k, .int .i64 r]) ∧ ((w.alloc (.cells #[.int .i64 p, .int .i64 k, .int .i64 r] 49)).alloc (.cells #[.int .i64 p, .int .i64 k, .int .i64 r] 51)).alloc (.cells #[.int .i64 p, .int .i64 k, .int .i64 r] 51) = w' := by
  go_enter Try.func43, Try.ntmps43
  go_wp2
  go_returns
  exact ⟨rfl, rfl⟩

end Go.Proofs.Ytmacccijecpnpaa
