/-
  Plain definitions: passings. No program in sight.
-/
import Derived.Test.YtjckgheidmfpnaaPr
namespace Go.Proofs.Ytjckgheidmfpnaa
open Go.RowKit
set_option linter.unusedVariables false
set_option linter.unusedSimpArgs false

/-- The first k passings are valid over n switches. -/
def goodP (n : Nat) (S T : Nat → Int) : Nat → Bool
  | 0 => true
  | k + 1 => goodP n S T k && (inB (S k) 0 ((n : Int) - 1) && inB (T k) 0 1000000 && (k == 0 || (decide (T (k - 1) < T k) && !(S k == S (k - 1)))))
theorem goodP_mono {n : Nat} {S T : Nat → Int} {k m : Nat} (h : goodP n S T m = true) (hk : k ≤ m) : goodP n S T k = true := by
  induction m with
  | zero => have : k = 0 := by omega
            subst this; exact h
  | succ m ih =>
    rcases Nat.lt_or_ge k (m + 1) with h1 | h1
    · unfold goodP at h
      rw [Bool.and_eq_true] at h
      exact ih h.1 (by omega)
    · have : k = m + 1 := by omega
      subst this; exact h
theorem goodP_no {n : Nat} {S T : Nat → Int} {k m : Nat} (h : goodP n S T (k + 1) = false) (hk : k < m) : goodP n S T m = false := by
  cases hn : goodP n S T m
  · rfl
  · rw [goodP_mono hn (show k + 1 ≤ m by omega)] at h; exact h
theorem goodP_step {n : Nat} {S T : Nat → Int} {k : Nat} (h : goodP n S T k = true) : goodP n S T (k + 1) = (inB (S k) 0 ((n : Int) - 1) && inB (T k) 0 1000000 && (k == 0 || (decide (T (k - 1) < T k) && !(S k == S (k - 1))))) := by
  show (goodP n S T k && _) = _
  rw [h, Bool.true_and]
theorem goodP_at {n : Nat} {S T : Nat → Int} {k m : Nat} (h : goodP n S T m = true) (hk : k < m) : 0 ≤ S k ∧ S k < n ∧ 0 ≤ T k ∧ T k ≤ 1000000 := by
  have h1 := goodP_mono h (show k + 1 ≤ m by omega)
  rw [goodP_step (goodP_mono h (show k ≤ m by omega))] at h1
  simp only [Bool.and_eq_true] at h1
  have h2 := inB_true.1 h1.1.1
  have h3 := inB_true.1 h1.1.2
  omega
theorem goodP_next {n : Nat} {S T : Nat → Int} {k m : Nat} (h : goodP n S T m = true) (hk : k + 1 < m) : T k < T (k + 1) ∧ S (k + 1) ≠ S k := by
  have h1 := goodP_mono h (show k + 1 + 1 ≤ m by omega)
  rw [goodP_step (goodP_mono h (show k + 1 ≤ m by omega))] at h1
  simp only [Bool.and_eq_true, Bool.or_eq_true, beq_iff_eq, decide_eq_true_eq, Bool.not_eq_true', beq_eq_false_iff_ne] at h1
  have h2 := h1.2
  simp at h2
  exact h2
theorem goodP_rise {n : Nat} {S T : Nat → Int} {m : Nat} (h : goodP n S T m = true) : ∀ j k, j < k → k < m → T j < T k := by
  intro j k hjk hk
  induction k with
  | zero => omega
  | succ k ih =>
    have h1 := (goodP_next h hk).1
    rcases Nat.lt_or_ge j k with h2 | h2
    · have := ih h2 (by omega); omega
    · have : j = k := by omega
      subst this; exact h1
theorem beq_swap (x y : Int) : (x == y) = (y == x) := by rw [Bool.eq_iff_iff]; simp; exact eq_comm
def placesOk (Z : Nat → Int) (n : Nat) : Bool := rises Z 0 4000000 n && decide (n ≤ 16)
def passOk (Z : Nat → Int) (n : Nat) (S T : Nat → Int) (m : Nat) : Bool := placesOk Z n && (goodP n S T m && decide (m ≤ 32))
theorem passOk_parts {Z : Nat → Int} {n : Nat} {S T : Nat → Int} {m : Nat} (h : passOk Z n S T m = true) : rises Z 0 4000000 n = true ∧ n ≤ 16 ∧ goodP n S T m = true ∧ m ≤ 32 := by
  unfold passOk placesOk at h
  simp only [Bool.and_eq_true, decide_eq_true_eq] at h
  exact ⟨h.1.1, h.1.2, h.2.1, h.2.2⟩
theorem passOk_no {Z : Nat → Int} {n : Nat} {S T : Nat → Int} {k m : Nat} (h : goodP n S T (k + 1) = false) (hk : k < m) : passOk Z n S T m = false := by
  unfold passOk; rw [goodP_no h hk]; simp
theorem passOk_all {Z : Nat → Int} {n : Nat} {S T : Nat → Int} {m : Nat} (h : goodP n S T m = true) : passOk Z n S T m = (placesOk Z n && decide (m ≤ 32)) := by
  unfold passOk; rw [h, Bool.true_and]
end Go.Proofs.Ytjckgheidmfpnaa
