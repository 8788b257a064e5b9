/-
  Contracts: the helpers of the laws over drawn inputs (b10).
-/
import Derived.Test.YtejhngkbkcalaaaGreatDoorM1
import Derived.LoopTactic
import Derived.Lib.Hide
namespace Go.Proofs.YtejhngkbkcalaaaGreatDoor
open Go.RowKit
set_option linter.unusedVariables false
set_option linter.unusedSimpArgs false


theorem laws_b10Long (a : Option Addr) (n c : Nat) (w : World) :
    Calls Tryz.prog 4 #[.slice a n c] w fun e w' => e = .returned (.bool (decide ((1048576 : Int) < (n : Int)))) ∧ w = w' := by
  by_cases h : (1048576 : Int) < (n : Int)
  · rw [decide_eq_true h]
    go_enter Tryz.func4, Tryz.ntmps4
    go_wp2
    go_returns
    exact ⟨rfl, rfl⟩
  · rw [decide_eq_false h]
    go_enter Tryz.func4, Tryz.ntmps4
    go_wp2
    go_returns
    exact ⟨rfl, rfl⟩

theorem laws_b10Abs (x : Int) (w : World) (h1 : -9223372036854775807 ≤ x) (h2 : x ≤ 9223372036854775807) :
    Calls Tryz.prog 13 #[.int .i64 x] w fun e w' => e = .returned (.int .i64 (absV x)) ∧ w = w' := by
  by_cases h : x < 0
  · rw [show absV x = -x from if_pos h]
    go_enter Tryz.func13, Tryz.ntmps13
    go_wp2
    go_returns
    exact ⟨rfl, rfl⟩
  · rw [show absV x = x from if_neg h]
    go_enter Tryz.func13, Tryz.ntmps13
    go_wp2
    go_returns
    exact ⟨rfl, rfl⟩

end Go.Proofs.YtejhngkbkcalaaaGreatDoor
