/-
  Plain definitions: readings, sums. No program in sight.
-/
import Derived.Test.YtjckgheidmfpnaaPs
import Derived.Test.YtjckgheidmfpnaaPb
namespace Go.Proofs.Ytjckgheidmfpnaa
open Go.RowKit
set_option linter.unusedVariables false
set_option linter.unusedSimpArgs false

/-- Some number is no reading. -/
def badRead (Z : Nat → Int) (n : Nat) : Bool := any (fun j => !inB (Z j) (-1000000000) 1000000000) n
def readV (Z : Nat → Int) (n : Nat) : Bool := !badRead Z n && decide (n ≤ 32)
theorem readV_bd {Z : Nat → Int} {n j : Nat} (h : readV Z n = true) (hj : j < n) : -1000000000 ≤ Z j ∧ Z j ≤ 1000000000 := by
  unfold readV badRead at h
  rw [Bool.and_eq_true, Bool.not_eq_true', any_false] at h
  have := h.1 j hj
  simp only [Bool.not_eq_false'] at this
  exact inB_true.1 this
theorem readV_le {Z : Nat → Int} {n : Nat} (h : readV Z n = true) : n ≤ 32 := by
  unfold readV at h; rw [Bool.and_eq_true, decide_eq_true_eq] at h; exact h.2
theorem badRead_here {Z : Nat → Int} {n k : Nat} (hk : k < n) (h : inB (Z k) (-1000000000) 1000000000 = false) : readV Z n = false := by
  have : badRead Z n = true := any_true.2 ⟨k, hk, by simp [h]⟩
  unfold readV; rw [this]; rfl
theorem badRead_none {Z : Nat → Int} {n : Nat} (h : ∀ j, j < n → inB (Z j) (-1000000000) 1000000000 = true) : readV Z n = decide (n ≤ 32) := by
  have : badRead Z n = false := any_false.2 (fun j hj => by simp [h j hj])
  unfold readV; rw [this]; rfl
/-- The sum of the first k differences. -/
def sumD (Z Y : Nat → Int) : Nat → Int
  | 0 => 0
  | k + 1 => sumD Z Y k + (Y k - Z k)
theorem sumD_bd {Z Y : Nat → Int} {n : Nat} (hz : ∀ j, j < n → -1000000000 ≤ Z j ∧ Z j ≤ 1000000000) (hy : ∀ j, j < n → -1000000000 ≤ Y j ∧ Y j ≤ 1000000000) : ∀ k, k ≤ n → -2000000000 * (k : Int) ≤ sumD Z Y k ∧ sumD Z Y k ≤ 2000000000 * (k : Int) := by
  intro k hk
  induction k with
  | zero => exact ⟨by show (-2000000000 * 0 : Int) ≤ 0; omega, by show (0 : Int) ≤ 2000000000 * 0; omega⟩
  | succ k ih =>
    have h1 := hz k (by omega)
    have h2 := hy k (by omega)
    have h3 := ih (by omega)
    show _ ≤ sumD Z Y k + (Y k - Z k) ∧ sumD Z Y k + (Y k - Z k) ≤ _
    omega
def offCode (Z Y : Nat → Int) (n m : Nat) : Int := if (decide (1 ≤ n) && readV Z n && (decide (1 ≤ m) && readV Y m)) = true then (if n = m then 0 else 7) else 2
def offV (Z Y : Nat → Int) (n m : Nat) : Int := if offCode Z Y n m = 0 then nearV (sumD Z Y n) n else 0
theorem off_2 {Z Y : Nat → Int} {n m : Nat} (h : (decide (1 ≤ n) && readV Z n && (decide (1 ≤ m) && readV Y m)) = false) : offCode Z Y n m = 2 ∧ offV Z Y n m = 0 := by
  have e : offCode Z Y n m = 2 := by unfold offCode; rw [h, if_neg (by decide)]
  exact ⟨e, by unfold offV; rw [e, if_neg (by decide)]⟩
theorem off_7 {Z Y : Nat → Int} {n m : Nat} (h : (decide (1 ≤ n) && readV Z n && (decide (1 ≤ m) && readV Y m)) = true) (h' : n ≠ m) : offCode Z Y n m = 7 ∧ offV Z Y n m = 0 := by
  have e : offCode Z Y n m = 7 := by unfold offCode; rw [h, if_pos rfl, if_neg h']
  exact ⟨e, by unfold offV; rw [e, if_neg (by decide)]⟩
theorem off_0 {Z Y : Nat → Int} {n m : Nat} (h : (decide (1 ≤ n) && readV Z n && (decide (1 ≤ m) && readV Y m)) = true) (h' : n = m) : offCode Z Y n m = 0 ∧ offV Z Y n m = nearV (sumD Z Y n) n := by
  have e : offCode Z Y n m = 0 := by unfold offCode; rw [h, if_pos rfl, if_pos h']
  exact ⟨e, by unfold offV; rw [e, if_pos rfl]⟩
end Go.Proofs.Ytjckgheidmfpnaa
