/-
  Plain facts of the passings' law. No program in sight.
-/
import Derived.Test.YtdhjnpjemaofoaaDoorPdo
import Derived.Test.YtdhjnpjemaofoaaDoorPu
import Derived.Test.YtdhjnpjemaofoaaDoorPv
import Derived.Test.YtdhjnpjemaofoaaDoorM1
namespace Go.Proofs.YtdhjnpjemaofoaaDoor
open Go.RowKit
set_option linter.unusedVariables false
set_option linter.unusedSimpArgs false

theorem near_way {a b : Int} (ha : 0 ≤ a) (hb : 1 ≤ b) : -b ≤ 2 * (nearV a b * b - a) ∧ 2 * (nearV a b * b - a) ≤ b := by
  unfold nearV
  rw [if_pos ha]
  have h1 := Int.mul_ediv_add_emod (2 * a + b) (2 * b)
  have h2 := Int.emod_nonneg (2 * a + b) (show 2 * b ≠ 0 by omega)
  have h3 := Int.emod_lt_of_pos (2 * a + b) (show 0 < 2 * b by omega)
  generalize (2 * a + b) / (2 * b) = q at *
  generalize (2 * a + b) % (2 * b) = r at *
  have e : 2 * b * q = 2 * (q * b) := by rw [Int.mul_assoc, Int.mul_comm b q]
  rw [e] at h1
  generalize q * b = m at *
  omega
theorem goodP_up {n : Nat} {S T : Nat → Int} {m : Nat} (h : goodP n S T m = true) : ∀ {i j : Nat}, i < j → j < m → T i < T j := by
  intro i j
  induction j with
  | zero => intro h1; omega
  | succ j ih =>
    intro h1 h2
    have h3 := (goodP_next (k := j) h h2).1
    rcases (show i < j ∨ i = j by omega) with h4 | rfl
    · have := ih h4 (by omega); omega
    · exact h3
theorem fst_is {q : Nat → Bool} {i : Nat} (h0 : ∀ j, j < i → q j = false) : fst q i = i := by
  induction i with
  | zero => rfl
  | succ i ih => exact fst_miss (ih (fun j hj => h0 j (by omega))) (h0 i (by omega))
/-- At the second of a passing the car is at its switch. -/
theorem place_pass {Z S T : Nat → Int} {n m i : Nat} (h : passOk Z n S T m = true) (hi : i < m) : placeC Z n S T m (T i) = 0 ∧ placeR Z n S T m (T i) = Z (S i).toNat := by
  obtain ⟨_, _, hg, _⟩ := passOk_parts h
  have ht := goodP_at hg hi
  obtain ⟨e1, e2⟩ := place_0 (t := T i) h (inB_true.2 ⟨ht.2.2.1, ht.2.2.2⟩) (show m ≠ 0 by omega)
  refine ⟨e1, e2.trans ?_⟩
  rw [place_hit (k := i) (fst_is (fun j hj => decide_eq_false (by have := goodP_up hg hj hi; omega))) (Int.le_refl _) hi]
  unfold lineV
  by_cases h0 : i = 0
  · subst h0; rw [if_pos (Or.inl (Int.le_refl _))]; rfl
  · have := goodP_up hg (show i - 1 < i by omega) hi
    rw [if_neg (by omega), if_pos (Int.le_refl _)]; rfl
theorem rises_lt {Z : Nat → Int} {n : Nat} (h : rises Z 0 4000000 n = true) {j : Nat} (hj : j + 1 < n) : Z j < Z (j + 1) := by
  have h1 := rises_mono h (show j + 1 + 1 ≤ n by omega)
  rw [rises_step (rises_mono h (show j + 1 ≤ n by omega))] at h1
  simp at h1
  exact h1.2
theorem rises_up {Z : Nat → Int} {n : Nat} (h : rises Z 0 4000000 n = true) : ∀ {i j : Nat}, i < j → j < n → Z i < Z j := by
  intro i j
  induction j with
  | zero => intro h1; omega
  | succ j ih =>
    intro h1 h2
    have h3 := rises_lt h h2
    rcases (show i < j ∨ i = j by omega) with h4 | rfl
    · have := ih h4 (by omega); omega
    · exact h3
/-- The switch that is nearest to a switch's place is that switch. -/
theorem near_self {Z : Nat → Int} {n s : Nat} (h : rises Z 0 4000000 n = true) (hs : s < n) : ∀ k, s < k → k ≤ n → nearIx Z (Z s) k = s := by
  intro k
  induction k with
  | zero => intro h1; omega
  | succ k ih =>
    intro h1 h2
    rcases (show s < k ∨ s = k by omega) with h3 | rfl
    · have e := ih h3 (by omega)
      rw [nearIx_no (by rw [e]; unfold absV; split <;> split <;> omega), e]
    · rcases Nat.eq_zero_or_pos s with rfl | h0
      · exact nearIx_one Z _
      · have h4 := nearIx_lt Z (Z s) s h0
        have h5 := rises_up h h4 hs
        exact nearIx_yes (by unfold absV; split <;> split <;> omega)
theorem switch_pass {Z S T : Nat → Int} {n m i : Nat} (h : passOk Z n S T m = true) (hi : i < m) : switchCode Z n (Z (S i).toNat) = 0 ∧ switchV Z n (Z (S i).toNat) = S i := by
  obtain ⟨hr, h16, hg, _⟩ := passOk_parts h
  have ht := goodP_at hg hi
  have hb := rises_bd (j := (S i).toNat) hr (by omega)
  have e : switchCode Z n (Z (S i).toNat) = 0 := by
    unfold switchCode
    rw [if_pos (by rw [hr, decide_eq_true h16]; rfl), if_pos (inB_true.2 hb), if_neg (by omega)]
  refine ⟨e, ?_⟩
  unfold switchV
  rw [if_pos e, near_self hr (s := (S i).toNat) (by omega) n (by omega) (Nat.le_refl _)]
  omega
theorem accB1_rises (q : Nat → Bool) (n : Nat) : risesB (fun j => (accB q (fun j => (j : Int) + 1) n).getD j 0) ((n : Int) + 1) (accB q (fun j => (j : Int) + 1) n).length := by
  induction n with
  | zero => intro j hj; exact absurd hj (by simp [accB])
  | succ n ih =>
    cases h : q n
    · rw [accB_no h]; exact rises_more ih (by omega)
    · rw [accB_yes h]; exact rises_app ih (by omega) (by omega) (by omega)
theorem mem_acc1 (q : Nat → Bool) (n : Nat) (x : Int) : (x ∈ accB q (fun j => (j : Int) + 1) n) ↔ ∃ i : Nat, i < n ∧ q i = true ∧ x = (i : Int) + 1 := by
  induction n with
  | zero => simp [accB]
  | succ n ih =>
    cases h : q n
    · rw [accB_no h, ih]
      constructor
      · rintro ⟨i, a, b, c⟩; exact ⟨i, by omega, b, c⟩
      · rintro ⟨i, a, b, c⟩
        rcases (show i < n ∨ i = n by omega) with h2 | rfl
        · exact ⟨i, h2, b, c⟩
        · rw [h] at b; cases b
    · rw [accB_yes h, List.mem_append, ih, List.mem_singleton]
      constructor
      · rintro (⟨i, a, b, c⟩ | a)
        · exact ⟨i, by omega, b, c⟩
        · exact ⟨n, by omega, h, a⟩
      · rintro ⟨i, a, b, c⟩
        rcases (show i < n ∨ i = n by omega) with h2 | rfl
        · exact Or.inl ⟨i, h2, b, c⟩
        · exact Or.inr c
theorem acc1_has (q : Nat → Bool) {n i : Nat} (h : i < n) : any (fun j => (accB q (fun j => (j : Int) + 1) n).getD j 0 == (i : Int) + 1) (accB q (fun j => (j : Int) + 1) n).length = q i := by
  rw [any_getD, Bool.eq_iff_iff, decide_eq_true_eq, mem_acc1]
  constructor
  · rintro ⟨k, _, h2, h3⟩
    obtain rfl : i = k := by omega
    exact h2
  · intro h2; exact ⟨i, h, h2, rfl⟩
theorem acc1_zero (q : Nat → Bool) (n : Nat) : any (fun j => (accB q (fun j => (j : Int) + 1) n).getD j 0 == 0) (accB q (fun j => (j : Int) + 1) n).length = false := by
  rw [any_getD, decide_eq_false_iff_not, mem_acc1]
  rintro ⟨k, _, _, h3⟩
  omega
theorem turns_rise {S : Nat → Int} {m : Nat} : risesB (fun j => (turnsA S (m - 2)).getD j 0) m (turnsA S (m - 2)).length := by
  rcases (show m < 2 ∨ 2 ≤ m by omega) with h | h
  · rw [show m - 2 = 0 by omega]
    intro j hj; exact absurd hj (by simp [turnsA, accB])
  · exact rises_more (accB1_rises _ _) (by omega)
theorem missed_rise {S : Nat → Int} {n m : Nat} : risesB (fun j => (missA S n m).getD j 0) n (missA S n m).length := accB_rises _ _
/-- A switch between two passings was missed. -/
theorem missed_has {S : Nat → Int} {n m k : Nat} {x : Int} (hk : k + 1 < m) (h1 : min (S k) (S (k + 1)) < x) (h2 : x < max (S k) (S (k + 1))) (h0 : 0 ≤ x) (hn : x < n) : any (fun j => (missA S n m).getD j 0 == x) (missA S n m).length = true := by
  obtain ⟨i, rfl⟩ : ∃ i : Nat, x = i := ⟨x.toNat, by omega⟩
  have e := accI_has (missB S (m - 1)) (n := n) (i := i) (by omega)
  refine e.trans ?_
  unfold missB
  exact any_true.2 ⟨k, by omega, by unfold betw; rw [decide_eq_true h1, decide_eq_true h2]; rfl⟩
theorem missA_len (S : Nat → Int) (n m : Nat) : (missA S n m).length ≤ n := accB_len _ _ _
theorem turnsA_len (S : Nat → Int) (j : Nat) : (turnsA S j).length ≤ j := accB_len _ _ _
/-- What the law says of two passings, one behind the other. -/
theorem span_pass {Z S T : Nat → Int} {n m k : Nat} (h : passOk Z n S T m = true) (hk : k + 1 < m) :
    1 ≤ T (k + 1) - T k ∧ T (k + 1) - T k ≤ 1000000 ∧ -4000000 ≤ Z (S (k + 1)).toNat - Z (S k).toNat ∧ Z (S (k + 1)).toNat - Z (S k).toNat ≤ 4000000 ∧
      0 ≤ spdV Z S T k ∧ spdV Z S T k ≤ 4000001 ∧ -(T (k + 1) - T k) ≤ 2 * (spdV Z S T k * (T (k + 1) - T k) - absV (Z (S (k + 1)).toNat - Z (S k).toNat)) ∧
      2 * (spdV Z S T k * (T (k + 1) - T k) - absV (Z (S (k + 1)).toNat - Z (S k).toNat)) ≤ T (k + 1) - T k := by
  obtain ⟨hr, h16, hg, _⟩ := passOk_parts h
  have h1 := goodP_at hg (show k < m by omega)
  have h2 := goodP_at hg hk
  have h3 := (goodP_next hg hk).1
  have b1 := rises_bd (j := (S k).toNat) hr (by omega)
  have b2 := rises_bd (j := (S (k + 1)).toNat) hr (by omega)
  have ha := absV_bd (x := Z (S (k + 1)).toNat - Z (S k).toNat) (a := 4000000) (by omega) (by omega)
  have hn := near_way (a := absV (Z (S (k + 1)).toNat - Z (S k).toNat)) (b := T (k + 1) - T k) ha.1 (by omega)
  have hq := near_bound (a := absV (Z (S (k + 1)).toNat - Z (S k).toNat)) (b := T (k + 1) - T k) ha.1 (by omega)
  unfold spdV
  exact ⟨by omega, by omega, by omega, by omega, hq.1, by omega, hn.1, hn.2⟩
end Go.Proofs.YtdhjnpjemaofoaaDoor
