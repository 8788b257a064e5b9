/-
  Plain facts: what the controller's law says. No program in sight.
-/
import Derived.Test.YtccejaneammplaaPx
import Derived.Test.YtccejaneammplaaAp
namespace Go.Proofs.Ytccejaneammplaa
open Go.RowKit
set_option linter.unusedVariables false
set_option linter.unusedSimpArgs false

theorem mem_accB {q : Nat → Bool} {x : Nat → Int} {n : Nat} {y : Int} : y ∈ accB q x n ↔ ∃ i, i < n ∧ q i = true ∧ x i = y := by
  induction n with
  | zero => simp [accB]
  | succ n ih =>
    cases h : q n
    · rw [accB_no h, ih]
      constructor
      · rintro ⟨i, h1, h2, h3⟩; exact ⟨i, by omega, h2, h3⟩
      · rintro ⟨i, h1, h2, h3⟩
        rcases Nat.lt_or_ge i n with h4 | h4
        · exact ⟨i, h4, h2, h3⟩
        · obtain rfl : i = n := by omega
          rw [h] at h2; cases h2
    · rw [accB_yes h, List.mem_append, ih, List.mem_singleton]
      constructor
      · rintro (⟨i, h1, h2, h3⟩ | h1)
        · exact ⟨i, by omega, h2, h3⟩
        · exact ⟨n, by omega, h, h1.symm⟩
      · rintro ⟨i, h1, h2, h3⟩
        rcases Nat.lt_or_ge i n with h4 | h4
        · exact Or.inl ⟨i, h4, h2, h3⟩
        · obtain rfl : i = n := by omega
          exact Or.inr h3.symm
/-- The list of what is allowed has an event if it is allowed. -/
theorem allow_has {x : St} {ev : Int} (h1 : 1 ≤ ev) (h2 : ev ≤ 9) : any (fun j => (allowA x 9).getD j 0 == ev) (allowA x 9).length = allowed x ev := by
  rw [Bool.eq_iff_iff, any_true]
  have key : ev ∈ allowA x 9 ↔ allowed x ev = true := by
    unfold allowA
    rw [mem_accB]
    constructor
    · rintro ⟨i, _, h3, rfl⟩; exact h3
    · intro h
      refine ⟨(ev - 1).toNat, by omega, ?_, by omega⟩
      have : (((ev - 1).toNat : Nat) : Int) + 1 = ev := by omega
      show allowed x (((ev - 1).toNat : Nat) + 1) = true
      rw [this]; exact h
  rw [← key]
  generalize allowA x 9 = L
  constructor
  · rintro ⟨j, hj, h⟩
    have : L[j] = ev := by simpa [List.getD_eq_getElem?_getD, hj] using h
    exact this ▸ List.getElem_mem hj
  · intro h
    obtain ⟨j, hj, he⟩ := List.getElem_of_mem h
    exact ⟨j, hj, by simp [List.getD_eq_getElem?_getD, hj, he]⟩
/-- What is allowed leads on. -/
theorem after_ne {x : St} {ev : Int} (h1 : 1 ≤ ev) (h2 : ev ≤ 9) (h : allowed x ev = true) : (after x ev == x) = false := by
  rw [beq_eq_false_iff_ne]
  intro he
  obtain ⟨m, o, a, b, e⟩ := x
  rcases (show ev = 1 ∨ ev = 2 ∨ ev = 3 ∨ ev = 4 ∨ ev = 5 ∨ ev = 6 ∨ ev = 7 ∨ ev = 8 ∨ ev = 9 by omega) with rfl | rfl | rfl | rfl | rfl | rfl | rfl | rfl | rfl
  all_goals
    simp [allowed] at h
    simp only [after, settle] at he
    revert he
    simp
    repeat' split
    all_goals simp_all
    all_goals try omega
/-- What holds from the first state on. -/
structure InvS (x : St) : Prop where
  ok : 0 ≤ x.m ∧ x.m ≤ 4
  r : x.m = 1 → x.o = false
  run : x.m = 2 ∨ x.m = 3 → x.o = false ∧ x.e = false
  st : x.m = 0 → (x.a && x.b) = false
theorem InvS.first : InvS ⟨0, false, false, false, true⟩ := ⟨by simp, by simp, by simp, by simp⟩
theorem InvS.safe {x : St} (h : InvS x) : (inB x.m 0 4 && isSafe x.m x.o x.e) = true := by
  obtain ⟨h0, h1, h2, h3⟩ := h
  rw [inB_true.2 h0, Bool.true_and]
  unfold isSafe
  by_cases k : x.m = 2 ∨ x.m = 3
  · obtain ⟨e1, e2⟩ := h2 k
    rw [e1, e2]; simp
  · have k1 : x.m ≠ 2 := fun hh => k (Or.inl hh)
    have k2 : x.m ≠ 3 := fun hh => k (Or.inr hh)
    simp [k1, k2]
theorem InvS.settle {x : St} (hok : 0 ≤ x.m ∧ x.m ≤ 4) (hr : x.m = 1 → x.o = false) (hrun : x.m = 2 ∨ x.m = 3 → x.o = false ∧ x.e = false) (h0 : x.m = 0 → (x.a && x.b) = true → x.o = false) : InvS (settle x) := by
  unfold Go.Proofs.Ytccejaneammplaa.settle
  split
  · rename_i h
    simp only [Bool.and_eq_true, beq_iff_eq] at h
    exact ⟨by simp, fun _ => h0 h.1.1 (by rw [Bool.and_eq_true]; exact ⟨h.1.2, h.2⟩), by simp, by simp⟩
  · rename_i h
    refine ⟨hok, hr, hrun, fun hm => ?_⟩
    cases hab : x.a && x.b
    · rfl
    · exact absurd (by rw [Bool.and_assoc, hab, hm]; rfl) h
theorem InvS.after {x : St} {ev : Int} (h : InvS x) (ha : allowed x ev = true) : InvS (after x ev) := by
  obtain ⟨h0, h1, h2, h3⟩ := h
  obtain ⟨m, o, a, b, e⟩ := x
  simp only at h0 h1 h2 h3
  unfold Go.Proofs.Ytccejaneammplaa.after
  unfold allowed at ha
  repeat' split at ha
  all_goals
    rename_i hh
    simp only [Bool.and_eq_true, beq_iff_eq, Bool.not_eq_true', bne_iff_ne, ne_eq] at ha
    simp only [*, if_true, if_false]
    apply InvS.settle
    all_goals simp_all
    all_goals try (first | omega | (split <;> omega) | (split <;> simp_all))
theorem stE_inv {x : St} {Z : Nat → Int} (h : InvS x) : ∀ k, InvS (stE x Z k)
  | 0 => h
  | k + 1 => by
    show InvS (step (stE x Z k) (Z k))
    have ih := stE_inv h (Z := Z) k
    unfold step
    split
    · exact ih.after (by assumption)
    · exact ih
end Go.Proofs.Ytccejaneammplaa
