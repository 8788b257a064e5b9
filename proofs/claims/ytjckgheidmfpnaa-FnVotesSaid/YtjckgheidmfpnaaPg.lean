/-
  Plain definitions: the nearest of places. No program in sight.
-/
import Derived.Test.YtjckgheidmfpnaaPs
namespace Go.Proofs.Ytjckgheidmfpnaa
open Go.RowKit
set_option linter.unusedVariables false
set_option linter.unusedSimpArgs false

def absV (x : Int) : Int := if x < 0 then -x else x
/-- The first index below k whose number is nearest to p (0 where k = 0). -/
def nearIx (Z : Nat → Int) (p : Int) : Nat → Nat
  | 0 => 0
  | k + 1 => if absV (Z k - p) < absV (Z (nearIx Z p k) - p) then k else nearIx Z p k
theorem nearIx_lt (Z : Nat → Int) (p : Int) : ∀ k, 0 < k → nearIx Z p k < k := by
  intro k hk
  induction k with
  | zero => omega
  | succ k ih =>
    show (if absV (Z k - p) < absV (Z (nearIx Z p k) - p) then k else nearIx Z p k) < k + 1
    split
    · omega
    · rcases Nat.eq_zero_or_pos k with rfl | h
      · exact Nat.lt_succ_of_le (Nat.le_refl _)
      · have := ih h; omega
theorem nearIx_yes {Z : Nat → Int} {p : Int} {k : Nat} (h : absV (Z k - p) < absV (Z (nearIx Z p k) - p)) : nearIx Z p (k + 1) = k := if_pos h
theorem nearIx_no {Z : Nat → Int} {p : Int} {k : Nat} (h : ¬ absV (Z k - p) < absV (Z (nearIx Z p k) - p)) : nearIx Z p (k + 1) = nearIx Z p k := if_neg h
theorem nearIx_one (Z : Nat → Int) (p : Int) : nearIx Z p 1 = 0 := by
  show (if absV (Z 0 - p) < absV (Z 0 - p) then 0 else 0) = 0
  split <;> rfl
theorem absV_max (x y : Int) : (if x - y < y - x then y - x else x - y) = absV (x - y) := by
  unfold absV; split <;> split <;> omega
theorem rises_bd {Z : Nat → Int} {lo hi : Int} {n j : Nat} (h : rises Z lo hi n = true) (hj : j < n) : lo ≤ Z j ∧ Z j ≤ hi := by
  induction n with
  | zero => omega
  | succ n ih =>
    have hs : rises Z lo hi n = true := rises_mono h (Nat.le_succ n)
    rcases Nat.lt_or_ge j n with h1 | h1
    · exact ih hs h1
    · have : j = n := by omega
      subst this
      rw [rises_step hs] at h
      have hi : inB (Z j) lo hi = true := by
        cases hb : inB (Z j) lo hi
        · rw [hb] at h; simp at h
        · rfl
      exact inB_true.1 hi
def switchCode (Z : Nat → Int) (n : Nat) (p : Int) : Int := if (rises Z 0 4000000 n && decide (n ≤ 16)) = true then (if inB p 0 4000000 = true then (if n = 0 then 3 else 0) else 2) else 1
def switchV (Z : Nat → Int) (n : Nat) (p : Int) : Int := if switchCode Z n p = 0 then (nearIx Z p n : Int) else 0
end Go.Proofs.Ytjckgheidmfpnaa
