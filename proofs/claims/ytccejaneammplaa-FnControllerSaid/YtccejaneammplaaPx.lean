/-
  Plain definitions: events of the controller. No program in sight.
-/
import Derived.Test.YtccejaneammplaaPc
import Derived.Test.YtccejaneammplaaPt
namespace Go.Proofs.Ytccejaneammplaa
open Go.RowKit
set_option linter.unusedVariables false
set_option linter.unusedSimpArgs false

def allowA (x : St) (j : Nat) : List Int := accB (fun j => allowed x ((j : Int) + 1)) (fun j => (j : Int) + 1) j
/-- The state after the first k events; how many of them were refused; how often a ride ended. -/
def stE (x : St) (Z : Nat → Int) : Nat → St
  | 0 => x
  | k + 1 => step (stE x Z k) (Z k)
def refE (x : St) (Z : Nat → Int) : Nat → Nat
  | 0 => 0
  | k + 1 => refE x Z k + (if allowed (stE x Z k) (Z k) = true then 0 else 1)
def rideE (x : St) (Z : Nat → Int) : Nat → Nat
  | 0 => 0
  | k + 1 => rideE x Z k + (if (allowed (stE x Z k) (Z k) && (Z k == 7)) = true then 1 else 0)
theorem refE_le (x : St) (Z : Nat → Int) (k : Nat) : refE x Z k ≤ k := by
  induction k with
  | zero => exact Nat.le_refl _
  | succ k ih => show refE x Z k + _ ≤ k + 1; split <;> omega
theorem rideE_le (x : St) (Z : Nat → Int) (k : Nat) : rideE x Z k ≤ k := by
  induction k with
  | zero => exact Nat.le_refl _
  | succ k ih => show rideE x Z k + _ ≤ k + 1; split <;> omega
theorem run_no {x : St} {Z : Nat → Int} {k : Nat} (h : allowed (stE x Z k) (Z k) = false) : stE x Z (k + 1) = stE x Z k ∧ refE x Z (k + 1) = refE x Z k + 1 ∧ rideE x Z (k + 1) = rideE x Z k := by
  refine ⟨?_, ?_, ?_⟩
  · show step _ _ = _; unfold step; rw [h]; rfl
  · show refE x Z k + _ = _; rw [h]; rfl
  · show rideE x Z k + _ = _; rw [h]; rfl
theorem run_yes {x : St} {Z : Nat → Int} {k : Nat} (h : allowed (stE x Z k) (Z k) = true) : stE x Z (k + 1) = after (stE x Z k) (Z k) ∧ refE x Z (k + 1) = refE x Z k ∧ rideE x Z (k + 1) = rideE x Z k + (if (Z k == 7) = true then 1 else 0) := by
  refine ⟨?_, ?_, ?_⟩
  · show step _ _ = _; unfold step; rw [h]; rfl
  · show refE x Z k + _ = _; rw [h]; rfl
  · show rideE x Z k + _ = _; rw [h, Bool.true_and]
def badEv (Z : Nat → Int) (n : Nat) : Bool := any (fun j => !inB (Z j) 1 9) n
def runC (x : St) (Z : Nat → Int) (n : Nat) : Int := if inB x.m 0 4 = true then (if badEv Z n = true then 2 else if n ≤ 64 then 0 else 7) else 1
def runS (x : St) (Z : Nat → Int) (n : Nat) : St := if runC x Z n = 0 then stE x Z n else St.zero
def runR (x : St) (Z : Nat → Int) (n : Nat) : Int := if runC x Z n = 0 then (refE x Z n : Int) else 0
def runD (x : St) (Z : Nat → Int) (n : Nat) : Int := if runC x Z n = 0 then (rideE x Z n : Int) else 0
theorem run_c1 {x : St} {Z : Nat → Int} {n : Nat} (h : inB x.m 0 4 = false) : runC x Z n = 1 := by unfold runC; rw [h, if_neg (by decide)]
theorem run_c2 {x : St} {Z : Nat → Int} {n : Nat} (h : inB x.m 0 4 = true) (h2 : badEv Z n = true) : runC x Z n = 2 := by unfold runC; rw [h, if_pos rfl, h2, if_pos rfl]
theorem run_c7 {x : St} {Z : Nat → Int} {n : Nat} (h : inB x.m 0 4 = true) (h2 : badEv Z n = false) (h3 : ¬ n ≤ 64) : runC x Z n = 7 := by unfold runC; rw [h, if_pos rfl, h2, if_neg (by decide), if_neg h3]
theorem run_c0 {x : St} {Z : Nat → Int} {n : Nat} (h : inB x.m 0 4 = true) (h2 : badEv Z n = false) (h3 : n ≤ 64) : runC x Z n = 0 := by unfold runC; rw [h, if_pos rfl, h2, if_neg (by decide), if_pos h3]
theorem run_x {x : St} {Z : Nat → Int} {n : Nat} {c : Int} (h : runC x Z n = c) (hc : c ≠ 0) : runC x Z n = c ∧ runS x Z n = St.zero ∧ runR x Z n = 0 ∧ runD x Z n = 0 := by
  refine ⟨h, ?_, ?_, ?_⟩
  · unfold runS; rw [if_neg (by rw [h]; exact hc)]
  · unfold runR; rw [if_neg (by rw [h]; exact hc)]
  · unfold runD; rw [if_neg (by rw [h]; exact hc)]
theorem run_ok {x : St} {Z : Nat → Int} {n : Nat} (h : runC x Z n = 0) : runC x Z n = 0 ∧ runS x Z n = stE x Z n ∧ runR x Z n = (refE x Z n : Int) ∧ runD x Z n = (rideE x Z n : Int) := by
  refine ⟨h, ?_, ?_, ?_⟩
  · unfold runS; rw [if_pos h]
  · unfold runR; rw [if_pos h]
  · unfold runD; rw [if_pos h]
theorem badEv_at {Z : Nat → Int} {n j : Nat} (h : badEv Z n = false) (hj : j < n) : inB (Z j) 1 9 = true := by
  have := any_false.1 h j hj
  simpa using this
end Go.Proofs.Ytccejaneammplaa
