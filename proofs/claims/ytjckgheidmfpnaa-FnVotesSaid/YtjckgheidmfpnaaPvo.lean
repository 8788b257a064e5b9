/-
  Plain facts: what the law of votes says. No program in sight.
-/
import Derived.Test.YtjckgheidmfpnaaPod
import Derived.Test.YtjckgheidmfpnaaPj
import Derived.Test.YtjckgheidmfpnaaPh
import Derived.Test.YtjckgheidmfpnaaPe
namespace Go.Proofs.Ytjckgheidmfpnaa
open Go.RowKit
set_option linter.unusedVariables false
set_option linter.unusedSimpArgs false

/-- The greatest of the first k numbers and 0. -/
def mz (C : Nat → Int) : Nat → Int
  | 0 => 0
  | k + 1 => max (mz C k) (C k)
theorem mz_bd {C : Nat → Int} {b : Int} (h0 : 0 ≤ b) : ∀ k, (∀ j, j < k → C j ≤ b) → 0 ≤ mz C k ∧ mz C k ≤ b
  | 0, _ => ⟨Int.le_refl 0, h0⟩
  | k + 1, h => by
    have ih := mz_bd h0 k (fun j hj => h j (by omega))
    have := h k (by omega)
    show 0 ≤ max (mz C k) (C k) ∧ max (mz C k) (C k) ≤ b
    omega
theorem mz_mx {C : Nat → Int} {n : Nat} (hn : 0 < n) (h : ∀ j, j < n → 0 ≤ C j) : mz C n = mx C n := by
  have h0 := h 0 hn
  have key : ∀ k, k ≤ n → max (mz C k) (C 0) = mx C k := by
    intro k hk
    induction k with
    | zero => show max 0 (C 0) = C 0; omega
    | succ k ih =>
      have := ih (by omega)
      show max (max (mz C k) (C k)) (C 0) = max (mx C k) (C k)
      omega
  have h1 := key n (Nat.le_refl _)
  have h2 : C 0 ≤ mz C n := by
    cases n with
    | zero => omega
    | succ n =>
      have : ∀ k, C 0 ≤ mz C (k + 1) := by
        intro k
        induction k with
        | zero => show C 0 ≤ max (mz C 0) (C 0); omega
        | succ k ih => show C 0 ≤ max (mz C (k + 1)) _; omega
      exact this n
  omega
theorem mz_vote {Z : Nat → Int} {n : Nat} {p : Int} (hn : 0 < n) : mz (fun i => (cntN Z p n i : Int)) n = voteM Z n p := mz_mx hn (fun j _ => by omega)
theorem voteI_cnt {Z : Nat → Int} {n : Nat} {p : Int} (hn : 0 < n) : (cnt Z p (Z (voteI Z n p)) n : Int) = voteM Z n p := by
  have h := fst_true (q := fun j => (cntN Z p n j : Int) == voteM Z n p) (n := n) (voteI_lt hn)
  have h2 : (cntN Z p n (voteI Z n p) : Int) = voteM Z n p := by simpa [voteI] using h
  exact h2
theorem voteI_has {Z : Nat → Int} {n : Nat} {p : Int} (hn : 0 < n) : any (fun j => Z j == Z (voteI Z n p)) n = true := any_true.2 ⟨voteI Z n p, voteI_lt hn, by simp⟩
theorem vote_parts {Z : Nat → Int} {n : Nat} {p : Int} (h : voteOk Z n p = true) : 3 ≤ n ∧ n ≤ 32 ∧ 0 ≤ p ∧ p ≤ 1000000 ∧ ∀ j, j < n → -1000000000 ≤ Z j ∧ Z j ≤ 1000000000 := by
  unfold voteOk at h
  rw [Bool.and_eq_true, Bool.and_eq_true, decide_eq_true_eq] at h
  obtain ⟨⟨h1, h2⟩, h3⟩ := h
  obtain ⟨h4, h5⟩ := inB_true.1 h3
  exact ⟨h1, readV_le h2, h4, h5, fun j hj => readV_bd h2 hj⟩
theorem odd_pair {Z : Nat → Int} {n i k : Nat} {p : Int} (h : oddF Z n p < n) (h1 : k < i) (h2 : i < n) : agr p (Z i) (Z k) = !(decide ((i : Int) = (oddF Z n p : Int)) || decide ((k : Int) = (oddF Z n p : Int))) := by
  have := oddB_is.1 (fst_true (q := oddB Z p n) (n := n) h) k i h1 h2
  rw [agr_swap, this]
  have e1 : decide ((i : Int) = (oddF Z n p : Int)) = decide (i = fst (oddB Z p n) n) := by congr 1; unfold oddF; exact propext (by omega)
  have e2 : decide ((k : Int) = (oddF Z n p : Int)) = decide (k = fst (oddB Z p n) n) := by congr 1; unfold oddF; exact propext (by omega)
  rw [e1, e2, Bool.or_comm]
theorem last_one {Z : Nat → Int} (k : Nat) : lastZ Z 1 (k + 1) = Z k := by
  have h : 1 ≤ rowZ Z (k + 1) := by
    show 1 ≤ (if k = 0 then 1 else if Z k = Z (k - 1) then rowZ Z k + 1 else 1)
    have := (rowZ_bd Z k).1
    split
    · omega
    · split <;> omega
  exact last_new h
theorem last_has (Z : Nat → Int) (t : Int) : ∀ k, any (fun j => Z j == lastZ Z t (k + 1)) (k + 1) = true
  | 0 => any_true.2 ⟨0, by omega, by rw [last_1]; simp⟩
  | k + 1 => by
    by_cases h : t ≤ rowZ Z (k + 1 + 1)
    · rw [last_new h]; exact any_true.2 ⟨k + 1, by omega, by simp⟩
    · rw [last_old h]
      obtain ⟨j, hj, e⟩ := any_true.1 (last_has Z t k)
      exact any_true.2 ⟨j, by omega, e⟩
/-- The sum of the first k numbers. -/
def sumN (Z : Nat → Int) : Nat → Int
  | 0 => 0
  | k + 1 => sumN Z k + Z k
theorem sumN_bd {Z : Nat → Int} {n : Nat} (hz : ∀ j, j < n → -1000000000 ≤ Z j ∧ Z j ≤ 1000000000) : ∀ k, k ≤ n → -1000000000 * (k : Int) ≤ sumN Z k ∧ sumN Z k ≤ 1000000000 * (k : Int) := by
  intro k hk
  induction k with
  | zero => exact ⟨by show (-1000000000 * 0 : Int) ≤ 0; omega, by show (0 : Int) ≤ 1000000000 * 0; omega⟩
  | succ k ih =>
    have h1 := hz k (by omega)
    have h3 := ih (by omega)
    show _ ≤ sumN Z k + Z k ∧ sumN Z k + Z k ≤ _
    omega
theorem sumD_is (Z Y : Nat → Int) (k : Nat) : sumD Z Y k = sumN Y k - sumN Z k := by
  induction k with
  | zero => rfl
  | succ k ih => show sumD Z Y k + (Y k - Z k) = sumN Y k + Y k - (sumN Z k + Z k); omega
theorem near_swap {a b : Int} (hb : 1 ≤ b) : nearV (-a) b = -nearV a b := by
  by_cases h : 0 < a
  · exact nearV_neg h
  · by_cases h0 : a = 0
    · subst h0
      have : nearV 0 b = 0 := by
        unfold nearV
        rw [if_pos (Int.le_refl 0)]
        exact Int.ediv_eq_zero_of_lt (by omega) (by omega)
      rw [Int.neg_zero, this]; rfl
    · have := nearV_neg (c := -a) (b := b) (by omega)
      rw [Int.neg_neg] at this
      rw [this, Int.neg_neg]
theorem near_errP {a b : Int} (ha : 0 ≤ a) (hb : 1 ≤ b) : -b ≤ 2 * (nearV a b * b - a) ∧ 2 * (nearV a b * b - a) ≤ b := by
  unfold nearV
  rw [if_pos ha]
  have h1 := Int.mul_ediv_add_emod (2 * a + b) (2 * b)
  have h2 := Int.emod_nonneg (2 * a + b) (show 2 * b ≠ 0 by omega)
  have h3 := Int.emod_lt_of_pos (2 * a + b) (show 0 < 2 * b by omega)
  generalize (2 * a + b) / (2 * b) = q at *
  generalize (2 * a + b) % (2 * b) = r at *
  have e : 2 * b * q = 2 * (q * b) := by rw [Int.mul_assoc, Int.mul_comm b q]
  rw [e] at h1
  generalize q * b = m at *
  omega
theorem near_err {a b : Int} (hb : 1 ≤ b) : -b ≤ 2 * (nearV a b * b - a) ∧ 2 * (nearV a b * b - a) ≤ b := by
  by_cases h : 0 ≤ a
  · exact near_errP h hb
  · have h1 := near_errP (a := -a) (b := b) (by omega) hb
    rw [near_swap hb, Int.neg_mul] at h1
    omega
theorem off_parts {Z Y : Nat → Int} {n m : Nat} (h : offCode Z Y n m = 0) : 1 ≤ n ∧ n ≤ 32 ∧ m = n ∧ (∀ j, j < n → -1000000000 ≤ Z j ∧ Z j ≤ 1000000000) ∧ (∀ j, j < n → -1000000000 ≤ Y j ∧ Y j ≤ 1000000000) ∧ offCode Y Z m n = 0 ∧ offV Z Y n m = nearV (sumN Y n - sumN Z n) n ∧ offV Y Z m n = -nearV (sumN Y n - sumN Z n) n := by
  cases hc : (decide (1 ≤ n) && readV Z n && (decide (1 ≤ m) && readV Y m))
  · rw [(off_2 hc).1] at h; omega
  · by_cases hnm : n = m
    · subst hnm
      have hc2 : (decide (1 ≤ n) && readV Y n && (decide (1 ≤ n) && readV Z n)) = true := by rw [Bool.and_comm]; exact hc
      have h1 := off_0 hc rfl
      have h2 := off_0 hc2 rfl
      rw [Bool.and_eq_true, Bool.and_eq_true, Bool.and_eq_true, decide_eq_true_eq] at hc
      refine ⟨hc.1.1, readV_le hc.1.2, rfl, fun j hj => readV_bd hc.1.2 hj, fun j hj => readV_bd hc.2.2 hj, h2.1, by rw [h1.2, sumD_is], ?_⟩
      rw [h2.2, sumD_is, ← near_swap (by have := hc.1.1; omega)]
      congr 1
      omega
    · rw [(off_7 hc hnm).1] at h; omega
theorem off_err {Z Y : Nat → Int} {n : Nat} (hn : 1 ≤ n) : absV (nearV (sumN Y n - sumN Z n) n * n - sumN Y n + sumN Z n) * 2 ≤ n := by
  have := near_err (a := sumN Y n - sumN Z n) (b := n) (by omega)
  unfold absV
  generalize nearV (sumN Y n - sumN Z n) n * n = m at *
  split <;> omega
theorem off_zero {Z Y : Nat → Int} {n m : Nat} (h : offCode Z Y n m ≠ 0) : offV Z Y n m = 0 := by unfold offV; rw [if_neg h]
end Go.Proofs.Ytjckgheidmfpnaa
