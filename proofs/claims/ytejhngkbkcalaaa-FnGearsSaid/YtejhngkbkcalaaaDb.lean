/-
  Contracts: the helpers of the laws over drawn inputs (b10).
-/
import Derived.Test.YtejhngkbkcalaaaM1
import Derived.LoopTactic
import Derived.Lib.Hide
namespace Go.Proofs.Ytejhngkbkcalaaa
open Go.RowKit
set_option linter.unusedVariables false
set_option linter.unusedSimpArgs false


theorem laws_b10Long (a : Option Addr) (n c : Nat) (w : World) :
    Calls Try.prog 4 #[.slice a n c] w fun e w' => e = .returned (.bool (decide ((1048576 : Int) < (n : Int)))) ∧ w = w' := by
  by_cases h : (1048576 : Int) < (n : Int)
  · rw [decide_eq_true h]
    go_enter Try.func4, Try.ntmps4
    go_wp2
    go_returns
    exact ⟨rfl, rfl⟩
  · rw [decide_eq_false h]
    go_enter Try.func4, Try.ntmps4
    go_wp2
    go_returns
    exact ⟨rfl, rfl⟩

end Go.Proofs.Ytejhngkbkcalaaa
