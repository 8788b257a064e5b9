/-
  Plain facts of the doors' law. No program in sight.
-/
import Derived.Test.YtdhjnpjemaofoaaDoorM1
namespace Go.Proofs.YtdhjnpjemaofoaaDoor
open Go.RowKit
set_option linter.unusedVariables false
set_option linter.unusedSimpArgs false

/-- Numbers that rise, from 0 on and below n. -/
def risesB (Z : Nat → Int) (n : Int) (m : Nat) : Prop := ∀ j, j < m → 0 ≤ Z j ∧ Z j < n ∧ (0 < j → Z (j - 1) < Z j)
theorem getD_app {L : List Int} {x : Int} {j : Nat} : (L ++ [x]).getD j 0 = if j < L.length then L.getD j 0 else if j = L.length then x else 0 := by
  by_cases h : j < L.length
  · rw [if_pos h]; simp [List.getD_eq_getElem?_getD, List.getElem?_append_left h]
  · rw [if_neg h]
    by_cases h2 : j = L.length
    · subst h2; simp [List.getD_eq_getElem?_getD]
    · rw [if_neg h2]
      have : (L ++ [x]).length ≤ j := by simp; omega
      simp [List.getD_eq_getElem?_getD, List.getElem?_eq_none this]
theorem rises_more {L : List Int} {n n' : Int} (h : risesB (fun j => L.getD j 0) n L.length) (hn : n ≤ n') : risesB (fun j => L.getD j 0) n' L.length := fun j hj => by
  obtain ⟨h1, h2, h3⟩ := h j hj
  exact ⟨h1, by omega, h3⟩
theorem rises_app {L : List Int} {n x n' : Int} (h : risesB (fun j => L.getD j 0) n L.length) (h0 : 0 ≤ x) (h1 : n ≤ x) (h2 : x < n') : risesB (fun j => (L ++ [x]).getD j 0) n' (L ++ [x]).length := fun j hj => by
  dsimp only
  simp only [List.length_append, List.length_cons, List.length_nil] at hj
  simp only [getD_app]
  by_cases h3 : j < L.length
  · obtain ⟨k1, k2, k3⟩ := h j h3
    rw [if_pos h3]
    dsimp only at k1 k2
    refine ⟨k1, by omega, fun hp => ?_⟩
    rw [if_pos (by omega)]
    exact k3 hp
  · obtain rfl : j = L.length := by omega
    rw [if_neg h3, if_pos rfl]
    refine ⟨h0, h2, fun hp => ?_⟩
    rw [if_pos (by omega)]
    have := (h (L.length - 1) (by omega)).2.1
    dsimp only at this
    omega
theorem accB_rises (q : Nat → Bool) (n : Nat) : risesB (fun j => (accB q (fun j => (j : Int)) n).getD j 0) n (accB q (fun j => (j : Int)) n).length := by
  induction n with
  | zero => intro j hj; exact absurd hj (by simp [accB])
  | succ n ih =>
    cases h : q n
    · rw [accB_no h]; exact rises_more ih (by omega)
    · rw [accB_yes h]; exact rises_app ih (by omega) (by omega) (by omega)
theorem any_getD {L : List Int} {x : Int} : any (fun j => L.getD j 0 == x) L.length = decide (x ∈ L) := by
  rw [Bool.eq_iff_iff, any_true, decide_eq_true_eq]
  constructor
  · rintro ⟨j, hj, h⟩
    rw [beq_iff_eq] at h
    subst h
    have : L.getD j 0 = L[j] := by simp [List.getD_eq_getElem?_getD, hj]
    rw [this]; exact List.getElem_mem _
  · intro h
    obtain ⟨j, hj, rfl⟩ := List.getElem_of_mem h
    exact ⟨j, hj, by simp [List.getD_eq_getElem?_getD, hj]⟩
theorem mem_accI (q : Nat → Bool) (n : Nat) (i : Nat) : ((i : Int) ∈ accB q (fun j => (j : Int)) n) ↔ i < n ∧ q i = true := by
  induction n with
  | zero => simp [accB]
  | succ n ih =>
    cases h : q n
    · rw [accB_no h, ih]
      constructor
      · rintro ⟨a, b⟩; exact ⟨by omega, b⟩
      · rintro ⟨a, b⟩
        refine ⟨?_, b⟩
        rcases (show i < n ∨ i = n by omega) with h2 | rfl
        · exact h2
        · rw [h] at b; cases b
    · rw [accB_yes h, List.mem_append, ih, List.mem_singleton]
      constructor
      · rintro (⟨a, b⟩ | a)
        · exact ⟨by omega, b⟩
        · obtain rfl : i = n := by omega
          exact ⟨by omega, h⟩
      · rintro ⟨a, b⟩
        rcases (show i < n ∨ i = n by omega) with h2 | rfl
        · exact Or.inl ⟨h2, b⟩
        · exact Or.inr rfl
theorem accI_has (q : Nat → Bool) {n i : Nat} (h : i < n) : any (fun j => (accB q (fun j => (j : Int)) n).getD j 0 == (i : Int)) (accB q (fun j => (j : Int)) n).length = q i := by
  rw [any_getD, Bool.eq_iff_iff, decide_eq_true_eq, mem_accI]
  exact ⟨fun h => h.2, fun h2 => ⟨h, h2⟩⟩
/-- What a run of events tells of each event. -/
theorem run_door {d : Dr} {Z : Nat → Int} {n k : Nat} (h : drC d Z n = 0) (hk : k < n) :
    any (fun j => (drL d Z n).getD j 0 == (k : Int)) (drL d Z n).length = !doorMay (drE d Z k) (Z k) ∧
      ((doorMay (drE d Z k) (Z k) = true ∧ doorCode (drE d Z k) (Z k) = 0 ∧ doorV (drE d Z k) (Z k) = drE d Z (k + 1)) ∨
        (doorMay (drE d Z k) (Z k) = false ∧ doorCode (drE d Z k) (Z k) = 6 ∧ doorV (drE d Z k) (Z k) = Dr.zero ∧ drE d Z (k + 1) = drE d Z k)) := by
  obtain ⟨h1, h2, h3⟩ := dr_0 h
  have hL := (dr_ok h).2.2
  have hz := badDv_at h3 hk
  have ho := drE_ok (Z := Z) h1 k
  refine ⟨by rw [hL]; exact accI_has _ hk, ?_⟩
  cases hm : doorMay (drE d Z k) (Z k)
  · refine Or.inr ⟨rfl, (door_6 ho hz hm).1, (door_6 ho hz hm).2, ?_⟩
    show doorStep (drE d Z k) (Z k) = drE d Z k
    unfold doorStep
    rw [if_neg (by rw [hm]; decide)]
  · exact Or.inl ⟨rfl, (door_0 ho hz hm).1, (door_0 ho hz hm).2⟩
theorem run_rises {d : Dr} {Z : Nat → Int} {n : Nat} (h : drC d Z n = 0) : risesB (fun j => (drL d Z n).getD j 0) n (drL d Z n).length := by
  rw [(dr_ok h).2.2]; exact accB_rises _ _
theorem run_last {d : Dr} {Z : Nat → Int} {n : Nat} (h : drC d Z n = 0) : drO d Z n = drE d Z n ∧ (drE d Z n).ok = true := ⟨(dr_ok h).2.1, drE_ok (dr_0 h).1 n⟩
theorem drL_len (d : Dr) (Z : Nat → Int) (n : Nat) : (drL d Z n).length ≤ n := by
  unfold drL
  split
  · exact refL_len d Z n
  · exact Nat.zero_le _
/-- The doors behind k ticks. -/
def pullN (d : Dr) : Nat → Dr
  | 0 => d
  | k + 1 => pullD (pullN d k)
theorem pullN_ok {d : Dr} (h : d.ok = true) (k : Nat) : (pullN d k).ok = true := by
  induction k with
  | zero => exact h
  | succ k ih => exact pullD_ok ih
theorem pullN_left {d : Dr} (h : d.ok = true) {k : Nat} (hk : (k : Int) ≤ leftD d) : leftD (pullN d k) = leftD d - k := by
  induction k with
  | zero => simp [pullN]
  | succ k ih =>
    have ih := ih (by omega)
    show leftD (pullD (pullN d k)) = _
    rw [pullD_left (pullN_ok h k) (fun h0 => by
      have := (leftD_pos (pullN_ok h k)).2.2.1 h0
      omega)]
    omega
theorem pull_open {d : Dr} (h : d.ok = true) (hp : d.p = 2) : d = ⟨2, 0, 0⟩ ∧ doorCode d 2 = 0 ∧ doorV d 2 = ⟨3, 0, 0⟩ ∧ doorCode ⟨3, 0, 0⟩ 4 = 0 ∧ doorV ⟨3, 0, 0⟩ 4 = pullD d := by
  have h2 := (ok_iff d).1 h
  obtain ⟨p, k, r⟩ := d
  dsimp only at hp h2
  subst hp
  obtain ⟨rfl, rfl⟩ : k = 0 ∧ r = 0 := by omega
  exact ⟨rfl, by decide, by decide, by decide, by decide⟩
theorem pull_else {d : Dr} (h : d.ok = true) (hp : d.p ≠ 2) : doorCode d 4 = 0 ∧ doorV d 4 = pullD d := by
  obtain ⟨h1, h2⟩ := door_0 (ev := 4) h (by decide) (by unfold doorMay; rw [if_pos rfl])
  refine ⟨h1, h2.trans ?_⟩
  unfold doorStep pullD
  rw [if_pos (by unfold doorMay; rw [if_pos rfl]), if_pos rfl, if_neg hp]
end Go.Proofs.YtdhjnpjemaofoaaDoor
