/-
  Plain: valid motors. No program in sight.
-/
import Derived.Test.YtejhngkbkcalaaaM1
namespace Go.Proofs.Ytejhngkbkcalaaa
open Go.RowKit
set_option linter.unusedVariables false
set_option linter.unusedSimpArgs false

def motorOk (p m l : Int) : Bool := inB p 1000 10000000 && inB m 100 1000000 && inB l 0 500
theorem motorOk_bd {p m l : Int} (h : motorOk p m l = true) : (1000 ≤ p ∧ p ≤ 10000000) ∧ (100 ≤ m ∧ m ≤ 1000000) ∧ 0 ≤ l ∧ l ≤ 500 := by
  unfold motorOk at h; rw [Bool.and_eq_true, Bool.and_eq_true, inB_true, inB_true, inB_true] at h; omega
end Go.Proofs.Ytejhngkbkcalaaa
