/-
  Plain definitions: the odd reading. No program in sight.
-/
import Derived.Test.YtjckgheidmfpnaaPw
namespace Go.Proofs.Ytjckgheidmfpnaa
open Go.RowKit
set_option linter.unusedVariables false
set_option linter.unusedSimpArgs false

theorem cnt_full {Z : Nat → Int} {p x : Int} {k : Nat} : cnt Z p x k = k ↔ ∀ j, j < k → agr p x (Z j) = true := by
  induction k with
  | zero => exact ⟨fun _ j h => by omega, fun _ => rfl⟩
  | succ k ih =>
    have hle := cnt_le Z p x k
    constructor
    · intro h j hj
      cases hk : agr p x (Z k)
      · rw [cnt_no hk] at h; omega
      · rw [cnt_yes hk] at h
        rcases Nat.lt_or_ge j k with h1 | h1
        · exact (ih.1 (by omega)) j h1
        · obtain rfl : j = k := by omega
          exact hk
    · intro h
      rw [cnt_yes (h k (by omega)), ih.2 (fun j hj => h j (by omega))]
theorem cnt_two {Z : Nat → Int} {p x : Int} {n i j : Nat} (hi : i < n) (hj : j < n) (hne : i ≠ j) (h1 : agr p x (Z i) = true) (h2 : agr p x (Z j) = true) : 2 ≤ cnt Z p x n := by
  rcases Nat.lt_or_gt_of_ne hne with h | h
  · have a := cnt_pos (Z := Z) (p := p) (x := x) (show i < j by omega) h1
    have b := cnt_yes (k := j) h2
    have c := cnt_mono Z p x (show j + 1 ≤ n by omega)
    omega
  · have a := cnt_pos (Z := Z) (p := p) (x := x) (show j < i by omega) h2
    have b := cnt_yes (k := i) h1
    have c := cnt_mono Z p x (show i + 1 ≤ n by omega)
    omega
theorem cnt_zero {Z : Nat → Int} {p x : Int} {k : Nat} (h : ∀ j, j < k → agr p x (Z j) = false) : cnt Z p x k = 0 := by
  induction k with
  | zero => rfl
  | succ k ih => rw [cnt_no (h k (by omega)), ih (fun j hj => h j (by omega))]
theorem cnt_ext {Z Z' : Nat → Int} {p x : Int} {k : Nat} (h : ∀ j, j < k → Z j = Z' j) : cnt Z p x k = cnt Z' p x k := by
  induction k with
  | zero => rfl
  | succ k ih => show cnt Z p x k + (if agr p x (Z k) = true then 1 else 0) = cnt Z' p x k + (if agr p x (Z' k) = true then 1 else 0); rw [ih (fun j hj => h j (by omega)), h k (by omega)]
theorem cnt_one {Z : Nat → Int} {p x : Int} {n i : Nat} (hi : i < n) (h1 : agr p x (Z i) = true) (h : ∀ j, j < n → j ≠ i → agr p x (Z j) = false) : cnt Z p x n = 1 := by
  have a := cnt_zero (k := i) (fun j hj => h j (by omega) (by omega))
  have b : ∀ m, i < m → m ≤ n → cnt Z p x m = 1 := by
    intro m
    induction m with
    | zero => intro h _; omega
    | succ m ih =>
      intro hm hmn
      rcases Nat.lt_or_ge i m with h2 | h2
      · rw [cnt_no (h m (by omega) (by omega)), ih h2 (by omega)]
      · obtain rfl : i = m := by omega
        rw [cnt_yes h1, a]
  exact b n hi (Nat.le_refl _)
/-- A pair of readings that does not fit x as the odd one. -/
def offP (Z : Nat → Int) (p : Int) (x i k : Nat) : Bool := agr p (Z i) (Z k) == (decide ((i : Int) = x) || decide ((k : Int) = x))
def offRow (Z : Nat → Int) (p : Int) (x i k : Nat) : Bool := any (fun j => decide (i < j) && offP Z p x i j) k
def offAll (Z : Nat → Int) (p : Int) (x n i : Nat) : Bool := any (fun j => offRow Z p x j n) i
def oddB (Z : Nat → Int) (p : Int) (n x : Nat) : Bool := !offAll Z p x n n
def oddI (Z : Nat → Int) (n : Nat) (p : Int) : Nat := fst (fun j => (cntN Z p n j : Int) == 1) n
/-- The readings without the one at i. -/
def less (Z : Nat → Int) (i j : Nat) : Int := if j < i then Z j else Z (j + 1)
def oddM (Z : Nat → Int) (n : Nat) (p : Int) (i : Nat) : Int := mn (fun j => (cntN (less Z i) p (n - 1) j : Int)) (n - 1)
def oddF (Z : Nat → Int) (n : Nat) (p : Int) : Nat := fst (oddB Z p n) n
def oddC (Z : Nat → Int) (n : Nat) (p : Int) : Int := if voteOk Z n p = true then (if oddF Z n p < n then 0 else 3) else 2
def oddV (Z : Nat → Int) (n : Nat) (p : Int) : Int := if oddC Z n p = 0 then (oddF Z n p : Int) else 0
theorem odd_2 {Z : Nat → Int} {n : Nat} {p : Int} (h : voteOk Z n p = false) : oddC Z n p = 2 ∧ oddV Z n p = 0 := by
  have e : oddC Z n p = 2 := by unfold oddC; rw [h, if_neg (by decide)]
  exact ⟨e, by unfold oddV; rw [e, if_neg (by decide)]⟩
theorem odd_3 {Z : Nat → Int} {n : Nat} {p : Int} (h : voteOk Z n p = true) (h2 : oddF Z n p = n) : oddC Z n p = 3 ∧ oddV Z n p = 0 := by
  have e : oddC Z n p = 3 := by unfold oddC; rw [h, if_pos rfl, if_neg (by omega)]
  exact ⟨e, by unfold oddV; rw [e, if_neg (by decide)]⟩
theorem odd_0 {Z : Nat → Int} {n : Nat} {p : Int} {x : Nat} (h : voteOk Z n p = true) (h2 : oddF Z n p = x) (hx : x < n) : oddC Z n p = 0 ∧ oddV Z n p = x := by
  have e : oddC Z n p = 0 := by unfold oddC; rw [h, if_pos rfl, if_pos (by omega)]
  exact ⟨e, by unfold oddV; rw [e, if_pos rfl, h2]⟩
theorem any_succO (q : Nat → Bool) (k : Nat) : any q (k + 1) = (any q k || q k) := by
  rw [Bool.eq_iff_iff, Bool.or_eq_true, any_true, any_true]
  constructor
  · rintro ⟨j, hj, h⟩
    rcases Nat.lt_or_ge j k with h1 | h1
    · exact .inl ⟨j, h1, h⟩
    · obtain rfl : j = k := by omega
      exact .inr h
  · rintro (⟨j, hj, h⟩ | h)
    · exact ⟨j, by omega, h⟩
    · exact ⟨k, by omega, h⟩
theorem offRow_start (Z : Nat → Int) (p : Int) (x i : Nat) : offRow Z p x i (i + 1) = false := any_false.2 fun j hj => by
  show (decide (i < j) && _) = false
  rw [decide_eq_false (by omega)]; rfl
theorem offRow_step {Z : Nat → Int} {p : Int} {x i k : Nat} (h : i < k) : offRow Z p x i (k + 1) = (offRow Z p x i k || offP Z p x i k) := by
  unfold offRow
  rw [any_succO, decide_eq_true h, Bool.true_and]
theorem offAll_step (Z : Nat → Int) (p : Int) (x n i : Nat) : offAll Z p x n (i + 1) = (offAll Z p x n i || offRow Z p x i n) := any_succO _ _
theorem odd_yes (A B : Bool) {v : Bool} (h : v = true) : (!(A || (B || v))) = false := by rw [h]; simp
theorem odd_no (A B : Bool) {v : Bool} (h : v = false) : (!(A || (B || v))) = !(A || B) := by rw [h]; simp
theorem oddB_is {Z : Nat → Int} {p : Int} {n x : Nat} : oddB Z p n x = true ↔ ∀ i k, i < k → k < n → agr p (Z i) (Z k) = !(decide (i = x) || decide (k = x)) := by
  unfold oddB
  rw [Bool.not_eq_true', offAll, any_false]
  constructor
  · intro h i k h1 h2
    have := any_false.1 (h i (by omega)) k h2
    rw [decide_eq_true h1, Bool.true_and] at this
    unfold offP at this
    have e1 : decide ((i : Int) = (x : Int)) = decide (i = x) := by congr 1; exact propext (by omega)
    have e2 : decide ((k : Int) = (x : Int)) = decide (k = x) := by congr 1; exact propext (by omega)
    rw [e1, e2] at this
    revert this
    cases agr p (Z i) (Z k) <;> cases (decide (i = x) || decide (k = x)) <;> decide
  · intro h i hi
    refine any_false.2 fun k hk => ?_
    by_cases h1 : i < k
    · have e1 : decide ((i : Int) = (x : Int)) = decide (i = x) := by congr 1; exact propext (by omega)
      have e2 : decide ((k : Int) = (x : Int)) = decide (k = x) := by congr 1; exact propext (by omega)
      show (decide (i < k) && offP Z p x i k) = false
      unfold offP
      rw [e1, e2, h i k h1 hk]
      cases (decide (i = x) || decide (k = x)) <;> simp
    · rw [decide_eq_false h1]; rfl
theorem oddB_agr {Z : Nat → Int} {p : Int} {n x : Nat} (h : oddB Z p n x = true) {i k : Nat} (hne : i ≠ k) (hi : i < n) (hk : k < n) : agr p (Z i) (Z k) = !(decide (i = x) || decide (k = x)) := by
  rcases Nat.lt_or_gt_of_ne hne with h1 | h1
  · exact oddB_is.1 h i k h1 hk
  · rw [agr_swap, oddB_is.1 h k i h1 hi, Bool.or_comm]
theorem oddB_one {Z : Nat → Int} {p : Int} {n x : Nat} (hp : 0 ≤ p) (h : oddB Z p n x = true) (hx : x < n) : cntN Z p n x = 1 := by
  refine cnt_one hx (agr_self hp) fun j hj hne => ?_
  rw [oddB_agr h (Ne.symm hne) hx hj]; simp
/-- Another reading than two of at least three. -/
theorem third {n i k : Nat} (h3 : 3 ≤ n) (hne : i ≠ k) : ∃ j, j < n ∧ j ≠ i ∧ j ≠ k := by
  by_cases h0 : 0 ≠ i ∧ 0 ≠ k
  · exact ⟨0, by omega, h0.1, h0.2⟩
  · by_cases h1 : 1 ≠ i ∧ 1 ≠ k
    · exact ⟨1, by omega, h1.1, h1.2⟩
    · exact ⟨2, by omega, by omega, by omega⟩
theorem fst_at {q : Nat → Bool} {n x : Nat} (hx : x < n) (h1 : q x = true) (h0 : ∀ j, j < x → q j = false) : fst q n = x := by
  have e : fst q x = x := by
    have := any_false.2 h0
    unfold any at this
    have h2 := fst_le q x
    simp at this; omega
  have e2 : fst q (x + 1) = x := by rw [fst_hit e h1 (by omega)]
  have := fst_stay (q := q) (k := x + 1) (by omega) n (by omega)
  omega
theorem fst_none {q : Nat → Bool} {n : Nat} (h : ∀ j, j < n → q j = false) : fst q n = n := by
  have := any_false.2 h
  unfold any at this
  have h2 := fst_le q n
  simp at this; omega
theorem fst_some {q : Nat → Bool} {n : Nat} (h : fst q n < n) : q (fst q n) = true ∧ ∀ j, j < fst q n → q j = false := by
  induction n with
  | zero => omega
  | succ n ih =>
    have h2 := fst_le q n
    rcases Nat.lt_or_ge (fst q n) n with h1 | h1
    · have e := fst_stay (q := q) (k := n) h1 (n + 1) (by omega)
      rw [e]; exact ih h1
    · have e : fst q n = n := by omega
      cases hq : q n
      · have := fst_miss e hq; omega
      · have e2 := fst_hit e hq (by omega : n < n + 1)
        rw [e2]
        refine ⟨hq, fun j hj => ?_⟩
        have : any q n = false := by unfold any; simp; omega
        exact any_false.1 this j hj
theorem oddI_1 {Z : Nat → Int} {n : Nat} {p : Int} (h : oddI Z n p < n) : cntN Z p n (oddI Z n p) = 1 := by
  have := (fst_some (q := fun j => (cntN Z p n j : Int) == 1) h).1
  have h2 : ((cntN Z p n (oddI Z n p) : Int) == 1) = true := this
  have h3 := beq_iff_eq.1 h2
  omega
theorem oddI_none {Z : Nat → Int} {n : Nat} {p : Int} (hp : 0 ≤ p) (h : oddI Z n p = n) : oddF Z n p = n := by
  refine fst_none fun x hx => ?_
  cases hb : oddB Z p n x
  · rfl
  · exfalso
    have h1 := oddB_one hp hb hx
    have h2 : any (fun j => (cntN Z p n j : Int) == 1) n = true := any_true.2 ⟨x, hx, by simp [h1]⟩
    unfold any at h2
    unfold oddI at h
    simp at h2; omega
theorem less_lt {i j : Nat} (Z : Nat → Int) (h : j < i) : less Z i j = Z j := if_pos h
theorem less_ge {i j : Nat} (Z : Nat → Int) (h : i ≤ j) : less Z i j = Z (j + 1) := if_neg (by omega)
theorem less_other {Z : Nat → Int} {i n k : Nat} (hk : k < n) (hne : k ≠ i) (hi : i < n) : ∃ j, j < n - 1 ∧ less Z i j = Z k := by
  rcases Nat.lt_or_gt_of_ne hne with h | h
  · exact ⟨k, by omega, less_lt Z h⟩
  · exact ⟨k - 1, by omega, by rw [less_ge Z (by omega), show k - 1 + 1 = k by omega]⟩
theorem less_is {Z : Nat → Int} {i n j : Nat} (hj : j < n - 1) (hi : i < n) : ∃ k, k < n ∧ k ≠ i ∧ less Z i j = Z k := by
  rcases Nat.lt_or_ge j i with h | h
  · exact ⟨j, by omega, by omega, less_lt Z h⟩
  · exact ⟨j + 1, by omega, by omega, less_ge Z h⟩
/-- The same as a list: what lies ahead of i, and what lies behind it. -/
def lessL (Z : Nat → Int) (i n : Nat) : List Int := (List.range i).map Z ++ (List.range (n - (i + 1))).map fun j => Z (i + 1 + j)
theorem lessL_len {Z : Nat → Int} {i n : Nat} (hi : i < n) : (lessL Z i n).length = n - 1 := by simp [lessL]; omega
theorem lessL_at {Z : Nat → Int} {i n j : Nat} (hj : j < n - 1) (hi : i < n) : (lessL Z i n).getD j 0 = less Z i j := by
  unfold lessL
  rw [List.getD_eq_getElem?_getD]
  rcases Nat.lt_or_ge j i with h | h
  · rw [List.getElem?_append_left (by simpa using h), less_lt Z h]; simp [h]
  · rw [List.getElem?_append_right (by simpa using h), less_ge Z h]
    simp only [List.length_map, List.length_range]
    rw [List.getElem?_map, List.getElem?_range (by omega)]
    show Z (i + 1 + (j - i)) = _
    congr 1; omega
theorem oddM_bd {Z : Nat → Int} {n i : Nat} {p : Int} (hn : 3 ≤ n) : 0 ≤ oddM Z n p i ∧ oddM Z n p i ≤ n - 1 := by
  obtain ⟨j, hj, e⟩ := mn_is (fun j => (cntN (less Z i) p (n - 1) j : Int)) (show 0 < n - 1 by omega)
  have := cnt_le (less Z i) p (less Z i j) (n - 1)
  unfold oddM; rw [← e]
  unfold cntN; omega
theorem oddI_some {Z : Nat → Int} {n : Nat} {p : Int} (hp : 0 ≤ p) (h3 : 3 ≤ n) (h : oddI Z n p < n) :
    (oddM Z n p (oddI Z n p) < n - 1 → oddF Z n p = n) ∧ (¬ oddM Z n p (oddI Z n p) < n - 1 → oddF Z n p = oddI Z n p) := by
  have h1 := oddI_1 h
  have hlo := (fst_some (q := fun j => (cntN Z p n j : Int) == 1) h).2
  have hlow : ∀ j, j < oddI Z n p → oddB Z p n j = false := fun j hj => by
    cases hb : oddB Z p n j
    · rfl
    · have e := oddB_one hp hb (show j < n by omega)
      have := hlo j hj
      rw [e] at this; exact absurd this (by decide)
  have hself : ∀ x, x < n → oddB Z p n x = true → x = oddI Z n p := fun x hx hb => by
    by_cases hxi : x = oddI Z n p
    · exact hxi
    · exfalso
      obtain ⟨y, hy, hyx, hyi⟩ := third h3 hxi
      have := oddB_agr hb (Ne.symm hyi) h hy
      have e : agr p (Z (oddI Z n p)) (Z y) = true := by rw [this]; simp [Ne.symm hxi, hyx]
      have := cnt_two h hy (Ne.symm hyi) (agr_self hp) e
      unfold cntN at h1; omega
  generalize oddI Z n p = i at *
  constructor
  · intro hm
    refine fst_none fun x hx => ?_
    cases hb : oddB Z p n x
    · rfl
    · exfalso
      obtain rfl := hself x hx hb
      obtain ⟨j, hj, e⟩ := mn_is (fun j => (cntN (less Z x) p (n - 1) j : Int)) (show 0 < n - 1 by omega)
      unfold oddM at hm
      rw [← e] at hm
      have hf : cntN (less Z x) p (n - 1) j = n - 1 := by
        unfold cntN
        refine cnt_full.2 fun l hl => ?_
        obtain ⟨a, ha, hax, ea⟩ := less_is (Z := Z) (i := x) hj h
        obtain ⟨b, hbn, hbx, eb⟩ := less_is (Z := Z) (i := x) hl h
        rw [ea, eb]
        by_cases hab : a = b
        · subst hab; exact agr_self hp
        · rw [oddB_agr hb hab ha hbn]; simp [hax, hbx]
      omega
  · intro hm
    refine fst_at h ?_ hlow
    rw [oddB_is]
    have hfull : ∀ a b, a < n → b < n → a ≠ i → b ≠ i → agr p (Z a) (Z b) = true := fun a b ha hb hai hbi => by
      obtain ⟨j, hj, ej⟩ := less_other (Z := Z) ha hai h
      obtain ⟨l, hl, el⟩ := less_other (Z := Z) hb hbi h
      have hle := mn_le (fun j => (cntN (less Z i) p (n - 1) j : Int)) hj
      have hc := cnt_le (less Z i) p (less Z i j) (n - 1)
      have e : cnt (less Z i) p (less Z i j) (n - 1) = n - 1 := by
        unfold oddM at hm; unfold cntN at hle; unfold cntN at hm; omega
      have := cnt_full.1 e l hl
      rw [ej, el] at this
      exact this
    have hnone : ∀ a, a < n → a ≠ i → agr p (Z i) (Z a) = false := fun a ha hai => by
      cases hg : agr p (Z i) (Z a)
      · rfl
      · have := cnt_two h ha (Ne.symm hai) (agr_self hp) hg
        unfold cntN at h1; omega
    intro a b hab hb
    by_cases ha : a = i
    · subst ha; rw [hnone b hb (by omega)]; simp
    · by_cases hbi : b = i
      · subst hbi; rw [agr_swap, hnone a (by omega) (by omega)]; simp
      · rw [hfull a b (by omega) hb ha hbi]; simp [ha, hbi]
theorem oddI_idx {Z : Nat → Int} {n : Nat} {p : Int} : idx (fun j => (cntN Z p n j : Int) == 1) n = if oddI Z n p < n then (oddI Z n p : Int) else -1 := rfl
end Go.Proofs.Ytjckgheidmfpnaa
