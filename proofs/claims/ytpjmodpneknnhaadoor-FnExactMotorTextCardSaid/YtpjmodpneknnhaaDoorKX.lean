/-
  Exact contracts of the functions that copy a struct: which blocks they make.
-/
import Derived.Test.YtpjmodpneknnhaaDoorKA
namespace Go.Proofs.YtpjmodpneknnhaaDoor
open Go.RowKit


theorem laws_toBrake_x (d : Int) (f : Int) (w : World) : Calls Tryd.prog 13 #[.agg #[.int .i64 d, .int .i64 f]] w fun e' w' => e' = .returned (.agg #[.int .i64 d, .int .i64 f]) ∧ ((w.alloc (.cells #[.int .i64 d, .int .i64 f] 23)).alloc (.cells #[.int .i64 d, .int .i64 f] 25)).alloc (.cells #[.int .i64 d, .int .i64 f] 25) = w' := by
  go_enter Tryd.func13, Tryd.ntmps13
  go_wp2
  go_returns
  exact ⟨rfl, rfl⟩

theorem laws_toDoor_x (p : Int) (k : Int) (r : Int) (w : World) : Calls Tryd.prog 16 #[.agg #[.int .i64 p, .int .i64 k, .int .i64 r]] w fun e' w' => e' = .returned (.agg #[.int .i64 p, .int .i64 k, .int .i64 r]) ∧ ((w.alloc (.cells #[.int .i64 p, .int .i64 k, .int .i64 r] 29)).alloc (.cells #[.int .i64 p, .int .i64 k, .int .i64 r] 31)).alloc (.cells #[.int .i64 p, .int .i64 k, .int .i64 r] 31) = w' := by
  go_enter Tryd.func16, Tryd.ntmps16
  go_wp2
  go_returns
  exact ⟨rfl, rfl⟩

theorem laws_toPassing_x (i : Int) (j : Int) (w : World) : Calls Tryd.prog 19 #[.agg #[.int .i64 i, .int .i64 j]] w fun e' w' => e' = .returned (.agg #[.int .i64 i, .int .i64 j]) ∧ ((w.alloc (.cells #[.int .i64 i, .int .i64 j] 35)).alloc (.cells #[.int .i64 i, .int .i64 j] 37)).alloc (.cells #[.int .i64 i, .int .i64 j] 37) = w' := by
  go_enter Tryd.func19, Tryd.ntmps19
  go_wp2
  go_returns
  exact ⟨rfl, rfl⟩

theorem laws_toMotor_x (p : Int) (m : Int) (l : Int) (w : World) : Calls Tryd.prog 22 #[.agg #[.int .i64 p, .int .i64 m, .int .i64 l]] w fun e' w' => e' = .returned (.agg #[.int .i64 p, .int .i64 m, .int .i64 l]) ∧ ((w.alloc (.cells #[.int .i64 p, .int .i64 m, .int .i64 l] 41)).alloc (.cells #[.int .i64 p, .int .i64 m, .int .i64 l] 43)).alloc (.cells #[.int .i64 p, .int .i64 m, .int .i64 l] 43) = w' := by
  go_enter Tryd.func22, Tryd.ntmps22
  go_wp2
  go_returns
  exact ⟨rfl, rfl⟩

end Go.Proofs.YtpjmodpneknnhaaDoor
