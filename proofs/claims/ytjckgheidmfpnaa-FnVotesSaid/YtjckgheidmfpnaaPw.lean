/-
  Plain definitions: votes. No program in sight.
-/
import Derived.Test.YtjckgheidmfpnaaPt
namespace Go.Proofs.Ytjckgheidmfpnaa
open Go.RowKit
set_option linter.unusedVariables false
set_option linter.unusedSimpArgs false

def agr (p x y : Int) : Bool := decide (absV (x - y) ≤ p)
theorem agr_is (p x y : Int) : agr p x y = (decide (x - y ≤ p) && decide (y - x ≤ p)) := by
  unfold agr absV; rw [Bool.eq_iff_iff]; simp only [Bool.and_eq_true, decide_eq_true_eq]; split <;> omega
theorem agr_self {p x : Int} (h : 0 ≤ p) : agr p x x = true := by unfold agr absV; simp; omega
theorem agr_swap (p x y : Int) : agr p x y = agr p y x := by rw [agr_is, agr_is, Bool.and_comm]
/-- How many of the first k readings agree with x. -/
def cnt (Z : Nat → Int) (p x : Int) : Nat → Nat
  | 0 => 0
  | k + 1 => cnt Z p x k + (if agr p x (Z k) = true then 1 else 0)
theorem cnt_yes {Z : Nat → Int} {p x : Int} {k : Nat} (h : agr p x (Z k) = true) : cnt Z p x (k + 1) = cnt Z p x k + 1 := by
  show cnt Z p x k + _ = _; rw [if_pos h]
theorem cnt_no {Z : Nat → Int} {p x : Int} {k : Nat} (h : agr p x (Z k) = false) : cnt Z p x (k + 1) = cnt Z p x k := by
  show cnt Z p x k + _ = _; rw [if_neg (by rw [h]; decide)]; rfl
theorem cnt_le (Z : Nat → Int) (p x : Int) (k : Nat) : cnt Z p x k ≤ k := by
  induction k with
  | zero => exact Nat.le_refl _
  | succ k ih => show cnt Z p x k + _ ≤ k + 1; split <;> omega
theorem cnt_mono (Z : Nat → Int) (p x : Int) {k n : Nat} (h : k ≤ n) : cnt Z p x k ≤ cnt Z p x n := by
  induction n with
  | zero => have : k = 0 := by omega
            subst this; exact Nat.le_refl _
  | succ n ih =>
    rcases Nat.lt_or_ge k (n + 1) with h1 | h1
    · have := ih (by omega)
      show _ ≤ cnt Z p x n + _
      omega
    · have : k = n + 1 := by omega
      subst this; exact Nat.le_refl _
theorem cnt_pos {Z : Nat → Int} {p x : Int} {k n : Nat} (h : k < n) (hk : agr p x (Z k) = true) : 1 ≤ cnt Z p x n := by
  have h1 := cnt_yes hk
  have h2 := cnt_mono Z p x (show k + 1 ≤ n by omega)
  omega
def cntN (Z : Nat → Int) (p : Int) (n i : Nat) : Nat := cnt Z p (Z i) n
def agreeL (Z : Nat → Int) (p : Int) (n : Nat) : List Int := (List.range n).map fun i => (cntN Z p n i : Int)
/-- The greatest of the first k numbers (the first of them where k is 0). -/
def mx (C : Nat → Int) : Nat → Int
  | 0 => C 0
  | k + 1 => max (mx C k) (C k)
theorem mx_one (C : Nat → Int) : mx C 1 = C 0 := by show max (C 0) (C 0) = C 0; omega
theorem mx_ge (C : Nat → Int) {j k : Nat} (h : j < k) : C j ≤ mx C k := by
  induction k with
  | zero => omega
  | succ k ih =>
    show C j ≤ max (mx C k) (C k)
    rcases Nat.lt_or_ge j k with h1 | h1
    · have := ih h1; omega
    · obtain rfl : j = k := by omega
      omega
theorem mx_is (C : Nat → Int) {k : Nat} (h : 0 < k) : ∃ j, j < k ∧ C j = mx C k := by
  induction k with
  | zero => omega
  | succ k ih =>
    rcases Nat.eq_zero_or_pos k with h1 | h1
    · subst h1; exact ⟨0, by omega, (mx_one C).symm⟩
    · obtain ⟨j, hj, e⟩ := ih h1
      show ∃ j, _ ∧ C j = max (mx C k) (C k)
      by_cases h2 : C k ≤ mx C k
      · exact ⟨j, by omega, by omega⟩
      · exact ⟨k, by omega, by omega⟩
def mn (C : Nat → Int) : Nat → Int
  | 0 => C 0
  | k + 1 => min (mn C k) (C k)
theorem mn_one (C : Nat → Int) : mn C 1 = C 0 := by show min (C 0) (C 0) = C 0; omega
theorem mn_le (C : Nat → Int) {j k : Nat} (h : j < k) : mn C k ≤ C j := by
  induction k with
  | zero => omega
  | succ k ih =>
    show min (mn C k) (C k) ≤ C j
    rcases Nat.lt_or_ge j k with h1 | h1
    · have := ih h1; omega
    · obtain rfl : j = k := by omega
      omega
theorem mn_is (C : Nat → Int) {k : Nat} (h : 0 < k) : ∃ j, j < k ∧ C j = mn C k := by
  induction k with
  | zero => omega
  | succ k ih =>
    rcases Nat.eq_zero_or_pos k with h1 | h1
    · subst h1; exact ⟨0, by omega, (mn_one C).symm⟩
    · obtain ⟨j, hj, e⟩ := ih h1
      show ∃ j, _ ∧ C j = min (mn C k) (C k)
      by_cases h2 : mn C k ≤ C k
      · exact ⟨j, by omega, by omega⟩
      · exact ⟨k, by omega, by omega⟩
/-- The first of the greatest of the first k numbers, and it (0 where none is greater). -/
def bm (C : Nat → Int) : Nat → Nat × Int
  | 0 => (0, 0)
  | k + 1 => if (bm C k).2 < C k then (k, C k) else bm C k
theorem bm_yes {C : Nat → Int} {k : Nat} (h : (bm C k).2 < C k) : bm C (k + 1) = (k, C k) := if_pos h
theorem bm_no {C : Nat → Int} {k : Nat} (h : ¬ (bm C k).2 < C k) : bm C (k + 1) = bm C k := if_neg h
theorem bm_is {C : Nat → Int} {k : Nat} (hC : ∀ j, 1 ≤ C j) (hk : 0 < k) : (bm C k).2 = mx C k ∧ (bm C k).1 = fst (fun j => C j == mx C k) k ∧ (bm C k).1 < k := by
  induction k with
  | zero => omega
  | succ k ih =>
    rcases Nat.eq_zero_or_pos k with h1 | h1
    · subst h1
      have h0 : (bm C 0).2 < C 0 := by have := hC 0; show (0 : Int) < C 0; omega
      rw [bm_yes h0, mx_one]
      exact ⟨rfl, by rw [fst_hit (q := fun j => C j == C 0) (k := 0) rfl (by simp) (by omega)], by omega⟩
    · obtain ⟨e1, e2, e3⟩ := ih h1
      have hm : mx C (k + 1) = max (mx C k) (C k) := rfl
      by_cases h2 : (bm C k).2 < C k
      · rw [bm_yes h2]
        rw [e1] at h2
        have hmk : mx C (k + 1) = C k := by rw [hm]; omega
        rw [hmk]
        have hno : fst (fun j => C j == C k) k = k := by
          have := any_false (q := fun j => C j == C k) (n := k)
          have h3 := this.2 (fun j hj => by have := mx_ge C hj; simp; omega)
          unfold any at h3
          have := fst_le (fun j => C j == C k) k
          simp at h3; omega
        exact ⟨rfl, by rw [fst_hit hno (by simp) (by omega)], by omega⟩
      · rw [bm_no h2]
        rw [e1] at h2
        have hmk : mx C (k + 1) = mx C k := by rw [hm]; omega
        rw [hmk]
        refine ⟨e1, ?_, by omega⟩
        rw [fst_stay (k := k) (by omega) (k + 1) (by omega), e2]
def voteOk (Z : Nat → Int) (n : Nat) (p : Int) : Bool := (decide (3 ≤ n) && readV Z n) && inB p 0 1000000
def voteM (Z : Nat → Int) (n : Nat) (p : Int) : Int := mx (fun i => (cntN Z p n i : Int)) n
def voteI (Z : Nat → Int) (n : Nat) (p : Int) : Nat := fst (fun j => (cntN Z p n j : Int) == voteM Z n p) n
def voteC (Z : Nat → Int) (n : Nat) (p : Int) : Int := if voteOk Z n p = true then (if 2 * voteM Z n p ≤ n then 3 else 0) else 2
def voteV (Z : Nat → Int) (n : Nat) (p : Int) : Int := if voteC Z n p = 0 then Z (voteI Z n p) else 0
theorem vote_2 {Z : Nat → Int} {n : Nat} {p : Int} (h : voteOk Z n p = false) : voteC Z n p = 2 ∧ voteV Z n p = 0 := by
  have e : voteC Z n p = 2 := by unfold voteC; rw [h, if_neg (by decide)]
  exact ⟨e, by unfold voteV; rw [e, if_neg (by decide)]⟩
theorem vote_3 {Z : Nat → Int} {n : Nat} {p : Int} (h : voteOk Z n p = true) (h2 : 2 * voteM Z n p ≤ n) : voteC Z n p = 3 ∧ voteV Z n p = 0 := by
  have e : voteC Z n p = 3 := by unfold voteC; rw [h, if_pos rfl, if_pos h2]
  exact ⟨e, by unfold voteV; rw [e, if_neg (by decide)]⟩
theorem vote_0 {Z : Nat → Int} {n : Nat} {p : Int} (h : voteOk Z n p = true) (h2 : ¬ 2 * voteM Z n p ≤ n) : voteC Z n p = 0 ∧ voteV Z n p = Z (voteI Z n p) := by
  have e : voteC Z n p = 0 := by unfold voteC; rw [h, if_pos rfl, if_neg h2]
  exact ⟨e, by unfold voteV; rw [e, if_pos rfl]⟩
theorem voteM_bd {Z : Nat → Int} {n : Nat} {p : Int} (hn : 0 < n) : 0 ≤ voteM Z n p ∧ voteM Z n p ≤ n := by
  obtain ⟨j, hj, e⟩ := mx_is (fun i => (cntN Z p n i : Int)) hn
  have := cnt_le Z p (Z j) n
  unfold voteM; rw [← e]
  unfold cntN; omega
theorem voteI_lt {Z : Nat → Int} {n : Nat} {p : Int} (hn : 0 < n) : voteI Z n p < n := by
  obtain ⟨j, hj, e⟩ := mx_is (fun i => (cntN Z p n i : Int)) hn
  have := (any_true (q := fun j => (cntN Z p n j : Int) == voteM Z n p)).2 ⟨j, hj, by simpa [voteM] using e⟩
  unfold any at this
  simpa [voteI] using this
theorem voteI_bm {Z : Nat → Int} {n : Nat} {p : Int} (hn : 0 < n) (hp : 0 ≤ p) (hC : ∀ j, j < n → 1 ≤ cntN Z p n j) :
    (bm (fun i => if i < n then (cntN Z p n i : Int) else 1) n).2 = voteM Z n p ∧ (bm (fun i => if i < n then (cntN Z p n i : Int) else 1) n).1 = voteI Z n p := by
  have hCC : ∀ j, (1 : Int) ≤ (fun i => if i < n then (cntN Z p n i : Int) else 1) j := fun j => by
    dsimp only; split
    · have := hC j (by assumption); omega
    · omega
  obtain ⟨e1, e2, _⟩ := bm_is hCC hn
  have hm : ∀ k, k ≤ n → mx (fun i => if i < n then (cntN Z p n i : Int) else 1) k = mx (fun i => (cntN Z p n i : Int)) k := by
    intro k hk
    induction k with
    | zero => show (if 0 < n then _ else _) = _; rw [if_pos hn]; rfl
    | succ k ih =>
      show max (mx _ k) (if k < n then (cntN Z p n k : Int) else 1) = max (mx _ k) (cntN Z p n k : Int)
      rw [ih (by omega), if_pos (by omega)]
  refine ⟨by rw [e1, hm n (Nat.le_refl _)]; rfl, ?_⟩
  rw [e2, hm n (Nat.le_refl _)]
  have hf : ∀ (q q' : Nat → Bool) k, (∀ j, j < k → q j = q' j) → fst q k = fst q' k := by
    intro q q' k
    induction k with
    | zero => intro _; rfl
    | succ k ih =>
      intro h
      have e := ih (fun j hj => h j (by omega))
      show (if fst q k < k then fst q k else if q k = true then k else k + 1) = _
      rw [e, h k (by omega)]; rfl
  exact hf _ _ n (fun j hj => by (try dsimp only); rw [if_pos hj]; rfl)
def cntC (Z : Nat → Int) (p : Int) (n : Nat) (i : Nat) : Int := if i < n then (cntN Z p n i : Int) else 1
theorem agreeL_at {Z : Nat → Int} {p : Int} {n j : Nat} (h : j < n) : (agreeL Z p n).getD j 0 = (cntN Z p n j : Int) := by simp [agreeL, h]
theorem agreeL_len (Z : Nat → Int) (p : Int) (n : Nat) : (agreeL Z p n).length = n := by simp [agreeL]
theorem cntN_pos {Z : Nat → Int} {p : Int} {n j : Nat} (hp : 0 ≤ p) (h : j < n) : 1 ≤ cntN Z p n j := cnt_pos h (agr_self hp)
theorem vote_bm {Z : Nat → Int} {n : Nat} {p : Int} (hn : 0 < n) (hp : 0 ≤ p) : (bm (cntC Z p n) n).2 = voteM Z n p ∧ (bm (cntC Z p n) n).1 = voteI Z n p := voteI_bm hn hp (fun j hj => cntN_pos hp hj)
theorem voteI_idx {Z : Nat → Int} {n : Nat} {p : Int} (hn : 0 < n) : idx (fun j => (cntN Z p n j : Int) == voteM Z n p) n = (voteI Z n p : Int) := by
  have := voteI_lt (Z := Z) (p := p) hn
  unfold idx
  rw [if_pos (show fst _ n < n from this)]; rfl
end Go.Proofs.Ytjckgheidmfpnaa
