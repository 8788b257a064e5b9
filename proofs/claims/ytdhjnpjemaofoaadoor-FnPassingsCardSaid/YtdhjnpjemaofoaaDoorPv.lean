/-
  Plain definitions: switches that were passed without a passing; rising lists of small numbers. No program in sight.
-/
import Derived.Test.YtdhjnpjemaofoaaDoorM1
namespace Go.Proofs.YtdhjnpjemaofoaaDoor
open Go.RowKit
set_option linter.unusedVariables false
set_option linter.unusedSimpArgs false

/-- The numbers below n that q lets, in their order. -/
def filt (q : Nat → Bool) (n : Nat) : List Int := accB q (fun j => (j : Int)) n
theorem filt_len (q : Nat → Bool) (n : Nat) : (filt q n).length ≤ n := accB_len _ _ _
theorem filt_yes {q : Nat → Bool} {n : Nat} (h : q n = true) : filt q (n + 1) = filt q n ++ [(n : Int)] := accB_yes h
theorem filt_no {q : Nat → Bool} {n : Nat} (h : q n = false) : filt q (n + 1) = filt q n := accB_no h
theorem filt_cong {q q' : Nat → Bool} {n : Nat} (h : ∀ s, s < n → q s = q' s) : filt q n = filt q' n := by
  induction n with
  | zero => rfl
  | succ n ih =>
    have e := ih (fun s hs => h s (by omega))
    have hn := h n (by omega)
    cases hq : q n
    · rw [filt_no hq, filt_no (by rw [← hn]; exact hq), e]
    · rw [filt_yes hq, filt_yes (by rw [← hn]; exact hq), e]
theorem filt_false {q : Nat → Bool} {n : Nat} (h : ∀ s, s < n → q s = false) : filt q n = [] := by
  induction n with
  | zero => rfl
  | succ n ih => rw [filt_no (h n (by omega)), ih (fun s hs => h s (by omega))]
def orX (q : Nat → Bool) (x : Nat) : Nat → Bool := fun s => q s || (s == x)
theorem filt_tail {q : Nat → Bool} {n x : Nat} (h : ∀ s, s < n → q s = true → s < x) (hx : x < n) : filt (orX q x) n = filt q n ++ [(x : Int)] := by
  induction n with
  | zero => omega
  | succ n ih =>
    have hq : q n = false := by
      cases hq : q n
      · rfl
      · have := h n (by omega) hq; omega
    rw [filt_no hq]
    rcases Nat.lt_or_ge x n with h1 | h1
    · rw [filt_no (show orX q x n = false by unfold orX; rw [hq]; simp; omega)]
      exact ih (fun s hs => h s (by omega)) h1
    · obtain rfl : n = x := by omega
      rw [filt_yes (show orX q n n = true by unfold orX; simp)]
      rw [filt_cong (q := orX q n) (q' := q) (fun s hs => by unfold orX; simp; omega)]
/-- Putting x to its place: one number of the list after another. -/
def putS (x : Int) (p : List Int × Bool) (y : Int) : List Int × Bool :=
  if !p.2 && decide (x ≤ y) then ((if x < y then p.1 ++ [x] else p.1) ++ [y], true) else (p.1 ++ [y], p.2)
def putSt (x : Int) (L : List Int) : List Int × Bool := L.foldl (putS x) ([], false)
def putF (x : Int) (L : List Int) : List Int := if (putSt x L).2 = true then (putSt x L).1 else (putSt x L).1 ++ [x]
theorem putSt_snoc (x : Int) (L : List Int) (y : Int) : putSt x (L ++ [y]) = putS x (putSt x L) y := by unfold putSt; rw [List.foldl_append]; rfl
theorem putSt_take {x : Int} {L : List Int} {k : Nat} (h : k < L.length) : putSt x (L.take (k + 1)) = putS x (putSt x (L.take k)) (L.getD k 0) := by
  rw [List.take_succ_eq_append_getElem h, putSt_snoc]
  congr 1
  simp [h]
theorem putSt_len (x : Int) (L : List Int) : (putSt x L).1.length ≤ 2 * L.length := by
  suffices h : ∀ (n : Nat), n ≤ L.length → (putSt x (L.take n)).1.length ≤ 2 * n by
    have := h L.length (Nat.le_refl _)
    rwa [List.take_length] at this
  intro n
  induction n with
  | zero => intro _; simp [putSt]
  | succ n ih =>
    intro hn
    have h1 := ih (by omega)
    rw [putSt_take (by omega)]
    unfold putS
    split
    · dsimp only
      split <;> simp <;> omega
    · simp; omega
theorem putSt_filt {q : Nat → Bool} {x : Nat} (n : Nat) :
    ((putSt x (filt q n)).2 = true ∧ (putSt x (filt q n)).1 = filt (orX q x) n ∧ x < n) ∨ ((putSt x (filt q n)).2 = false ∧ (putSt x (filt q n)).1 = filt q n ∧ ∀ s, s < n → q s = true → s < x) := by
  induction n with
  | zero => exact .inr ⟨rfl, rfl, fun s hs => absurd hs (by omega)⟩
  | succ n ih =>
    cases hq : q n
    · rw [filt_no hq]
      rcases ih with ⟨h1, h2, h3⟩ | ⟨h1, h2, h3⟩
      · refine .inl ⟨h1, ?_, by omega⟩
        rw [h2, filt_no (show orX q x n = false by unfold orX; rw [hq]; simp; omega)]
      · refine .inr ⟨h1, h2, fun s hs hs2 => ?_⟩
        rcases Nat.lt_or_ge s n with h4 | h4
        · exact h3 s h4 hs2
        · obtain rfl : s = n := by omega
          rw [hq] at hs2; cases hs2
    · rw [filt_yes hq, putSt_snoc]
      have hx : filt (orX q x) (n + 1) = filt (orX q x) n ++ [(n : Int)] := filt_yes (show orX q x n = true by unfold orX; rw [hq]; rfl)
      rcases ih with ⟨h1, h2, h3⟩ | ⟨h1, h2, h3⟩
      · refine .inl ?_
        unfold putS
        rw [h1, h2, hx]
        exact ⟨rfl, rfl, by omega⟩
      · unfold putS
        rw [h1, h2]
        rcases Nat.lt_trichotomy n x with h4 | h4 | h4
        · rw [if_neg (by simp; omega)]
          exact .inr ⟨rfl, rfl, fun s hs hs2 => by
            rcases Nat.lt_or_ge s n with h5 | h5
            · exact h3 s h5 hs2
            · omega⟩
        · subst h4
          rw [if_pos (by simp), if_neg (by omega)]
          refine .inl ⟨rfl, ?_, by omega⟩
          rw [hx, filt_cong (q := orX q n) (q' := q) (fun s hs => by unfold orX; simp; omega)]
        · rw [if_pos (by simp; omega), if_pos (by omega)]
          refine .inl ⟨rfl, ?_, by omega⟩
          rw [hx, filt_tail h3 h4]
theorem putF_filt {q : Nat → Bool} {x n : Nat} (hx : x < n) : putF x (filt q n) = filt (orX q x) n := by
  unfold putF
  rcases putSt_filt (q := q) (x := x) n with ⟨h1, h2, h3⟩ | ⟨h1, h2, h3⟩
  · rw [h1, if_pos rfl, h2]
  · rw [h1, if_neg (by decide), h2, filt_tail h3 hx]
/-- Switch s lies between passings k and k + 1. -/
def betw (S : Nat → Int) (s k : Nat) : Bool := decide (min (S k) (S (k + 1)) < (s : Int)) && decide ((s : Int) < max (S k) (S (k + 1)))
def missB (S : Nat → Int) (i : Nat) (s : Nat) : Bool := any (betw S s) i
def missA (S : Nat → Int) (n m : Nat) : List Int := filt (missB S (m - 1)) n
theorem any_succ (q : Nat → Bool) (n : Nat) : any q (n + 1) = (any q n || q n) := by
  cases h : any q n
  · cases h2 : q n
    · exact any_false.2 (fun j hj => by
        rcases Nat.lt_or_ge j n with h3 | h3
        · exact any_false.1 h j h3
        · obtain rfl : j = n := by omega
          exact h2)
    · exact any_true.2 ⟨n, by omega, h2⟩
  · obtain ⟨j, hj, hq⟩ := any_true.1 h
    exact any_true.2 ⟨j, by omega, hq⟩
/-- Behind i whole passings' spans and the numbers up to x of the next. -/
def missP (S : Nat → Int) (i : Nat) (x : Nat) : Nat → Bool := fun s => missB S i s || (decide (min (S i) (S (i + 1)) < (s : Int)) && decide (s < x))
theorem missP_start {S : Nat → Int} {i x : Nat} (h : (x : Int) ≤ min (S i) (S (i + 1)) + 1) (n : Nat) : filt (missP S i x) n = filt (missB S i) n :=
  filt_cong (fun s _ => by
    unfold missP
    have : (decide (min (S i) (S (i + 1)) < (s : Int)) && decide (s < x)) = false := by
      rw [Bool.and_eq_false_iff, decide_eq_false_iff_not, decide_eq_false_iff_not]; omega
    rw [this, Bool.or_false])
theorem missP_next {S : Nat → Int} {i x : Nat} (h : min (S i) (S (i + 1)) < (x : Int)) (n : Nat) : filt (missP S i (x + 1)) n = filt (orX (missP S i x) x) n :=
  filt_cong (fun s _ => by
    unfold missP orX
    rw [Bool.or_assoc]
    congr 1
    rw [Bool.eq_iff_iff]
    simp only [Bool.and_eq_true, Bool.or_eq_true, decide_eq_true_eq, beq_iff_eq]
    constructor
    · rintro ⟨h1, h2⟩
      by_cases h3 : s = x
      · exact .inr h3
      · exact .inl ⟨h1, by omega⟩
    · rintro (⟨h1, h2⟩ | rfl)
      · exact ⟨h1, by omega⟩
      · exact ⟨h, by omega⟩)
theorem missP_end {S : Nat → Int} {i x : Nat} (h : max (S i) (S (i + 1)) ≤ (x : Int)) (h' : (x : Int) ≤ max (max (S i) (S (i + 1))) (min (S i) (S (i + 1)) + 1)) (n : Nat) : filt (missP S i x) n = filt (missB S (i + 1)) n :=
  filt_cong (fun s _ => by
    unfold missP
    show _ = any (betw S s) (i + 1)
    rw [any_succ]
    show _ = (missB S i s || betw S s i)
    congr 1
    unfold betw
    rw [Bool.eq_iff_iff]
    simp only [Bool.and_eq_true, decide_eq_true_eq]
    omega)
end Go.Proofs.YtdhjnpjemaofoaaDoor
