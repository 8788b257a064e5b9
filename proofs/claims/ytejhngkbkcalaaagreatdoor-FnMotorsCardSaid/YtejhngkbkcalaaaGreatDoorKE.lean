/-
  Contracts: rounded quotients, forces of brakes, stopping ways.
-/
import Derived.Test.YtejhngkbkcalaaaGreatDoorKC
import Derived.Test.YtejhngkbkcalaaaGreatDoorM1
namespace Go.Proofs.YtejhngkbkcalaaaGreatDoor
open Go.RowKit
set_option linter.unusedVariables false
set_option linter.unusedSimpArgs false


theorem impl_abs (a : Int) (w : World) (h : -9000000000000000000 ≤ a) (h' : a ≤ 9000000000000000000) : Calls Tryz.prog 35 #[.int .i64 a] w fun e w' => e = .returned (.int .i64 (if a < 0 then -a else a)) ∧ w' = w := by
  by_cases h0 : a < 0
  all_goals
    go_enter Tryz.func35, Tryz.ntmps35
    go_wp2
    go_returns
    exact ⟨by simp, rfl⟩

theorem impl_ceilDiv (a b : Int) (w : World) (h1 : 0 ≤ a) (h2 : a ≤ 4000000000000000000) (h3 : 1 ≤ b) (h4 : b ≤ 1000000000000000000) :
    Calls Tryz.prog 43 #[.int .i64 a, .int .i64 b] w fun e w' => e = .returned (.int .i64 (upV a b)) ∧ w = w' := by
  have hb0 : (b == 0) = false := beq_eq_false_iff_ne.2 (by omega)
  go_enter Tryz.func43, Tryz.ntmps43
  go_wp2
  go_returns
  exact ⟨rfl, rfl⟩

end Go.Proofs.YtejhngkbkcalaaaGreatDoor
