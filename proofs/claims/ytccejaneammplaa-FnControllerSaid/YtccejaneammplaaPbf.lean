/-
  Plain definitions: the states that are found from a state. No program in sight.
-/
import Derived.Test.YtccejaneammplaaPx
import Derived.Test.YtccejaneammplaaPe
namespace Go.Proofs.Ytccejaneammplaa
open Go.RowKit
set_option linter.unusedVariables false
set_option linter.unusedSimpArgs false

def St.cellsL (x : St) : List Value := [.int .i64 x.m, .bool x.o, .bool x.a, .bool x.b, .bool x.e]
def addS (L : List St) (y : St) : List St := if y ∈ L then L else L ++ [y]
/-- The events 1 to j, one after another, from the state x: what is found new is put behind the list. -/
def growE (x : St) (L : List St) : Nat → List St
  | 0 => L
  | j + 1 => if allowed x ((j : Int) + 1) = true then addS (growE x L j) (after x ((j : Int) + 1)) else growE x L j
def roundS (L : List St) (k : Nat) : List St := match L[k]? with | none => L | some y => growE y L 9
def reachK (x : St) : Nat → List St
  | 0 => [x]
  | k + 1 => roundS (reachK x k) k
def reachS (x : St) : List St := reachK x 80
def safeS (x : St) : Bool := isSafe x.m x.o x.e

theorem sub_len : ∀ (L A : List St), L.Nodup → (∀ x ∈ L, x ∈ A) → L.length ≤ A.length
  | [], A, _, _ => Nat.zero_le _
  | x :: L, A, hn, hs => by
    have hx := hs x (List.mem_cons_self ..)
    have h1 := List.length_erase_of_mem hx
    have h2 := sub_len L (A.erase x) (List.nodup_cons.1 hn).2 (fun y hy => (List.mem_erase_of_ne (fun e => (List.nodup_cons.1 hn).1 (by rw [← e]; exact hy))).2 (hs y (List.mem_cons_of_mem _ hy)))
    have h3 : 0 < A.length := List.length_pos_of_mem hx
    simp only [List.length_cons]
    omega
def allSt : List St := [0, 1, 2, 3, 4].flatMap fun m => [false, true].flatMap fun o => [false, true].flatMap fun a => [false, true].flatMap fun b => [false, true].map fun e => ⟨m, o, a, b, e⟩
theorem mem_allSt {x : St} (h : x.ok = true) : x ∈ allSt := by
  obtain ⟨m, o, a, b, e⟩ := x
  unfold St.ok at h
  rw [inB_true] at h
  rcases (show m = 0 ∨ m = 1 ∨ m = 2 ∨ m = 3 ∨ m = 4 by simp only at h; omega) with rfl | rfl | rfl | rfl | rfl <;> cases o <;> cases a <;> cases b <;> cases e <;> decide
def goodL (L : List St) : Prop := L.Nodup ∧ ∀ x ∈ L, x.ok = true
theorem goodL.len {L : List St} (h : goodL L) : L.length ≤ 80 := sub_len L allSt h.1 fun x hx => mem_allSt (h.2 x hx)
theorem goodL.add {L : List St} {y : St} (h : goodL L) (hy : y.ok = true) : goodL (addS L y) := by
  unfold addS
  split
  · exact h
  · rename_i hn
    refine ⟨?_, fun x hx => ?_⟩
    · rw [List.nodup_append]
      refine ⟨h.1, by simp, fun a ha b hb e => hn ?_⟩
      simp at hb
      rw [← hb, ← e]; exact ha
    · rcases List.mem_append.1 hx with h1 | h1
      · exact h.2 x h1
      · simp at h1; rw [h1]; exact hy
theorem goodL.grow {x : St} {L : List St} (h : goodL L) (hx : x.ok = true) : ∀ j, goodL (growE x L j)
  | 0 => h
  | j + 1 => by
    unfold growE
    split
    · exact (goodL.grow h hx j).add (after_ok hx)
    · exact goodL.grow h hx j
theorem add_pre (L : List St) (y : St) : ∃ t, addS L y = L ++ t := by
  unfold addS
  split
  · exact ⟨[], by simp⟩
  · exact ⟨[y], rfl⟩
theorem grow_pre (x : St) (L : List St) : ∀ j, ∃ t, growE x L j = L ++ t
  | 0 => ⟨[], by simp [growE]⟩
  | j + 1 => by
    obtain ⟨t, ht⟩ := grow_pre x L j
    unfold growE
    split
    · obtain ⟨s, hs⟩ := add_pre (growE x L j) (after x ((j : Int) + 1))
      exact ⟨t ++ s, by rw [hs, ht, List.append_assoc]⟩
    · exact ⟨t, ht⟩
theorem grow_at {x y : St} {L : List St} {k : Nat} (h : L[k]? = some y) (j : Nat) : (growE x L j)[k]? = some y := by
  obtain ⟨t, ht⟩ := grow_pre x L j
  rw [ht, List.getElem?_append_left (by rcases Nat.lt_or_ge k L.length with h1 | h1; exact h1; rw [List.getElem?_eq_none h1] at h; cases h)]
  exact h
theorem grow_len (x : St) (L : List St) (j : Nat) : L.length ≤ (growE x L j).length := by
  obtain ⟨t, ht⟩ := grow_pre x L j
  rw [ht, List.length_append]; omega
theorem round_len (L : List St) (k : Nat) : L.length ≤ (roundS L k).length := by
  unfold roundS
  split
  · exact Nat.le_refl _
  · exact grow_len _ _ _
theorem reach_good {x : St} (hx : x.ok = true) : ∀ k, goodL (reachK x k)
  | 0 => ⟨by simp [reachK], fun y hy => by simp [reachK] at hy; rw [hy]; exact hx⟩
  | k + 1 => by
    have ih := reach_good hx k
    show goodL (roundS _ _)
    unfold roundS
    split
    · exact ih
    · rename_i y hy
      exact ih.grow (ih.2 y (List.mem_of_getElem? hy)) 9
theorem reach_stay {x : St} {k : Nat} (h : (reachK x k).length ≤ k) : ∀ d, reachK x (k + d) = reachK x k
  | 0 => rfl
  | d + 1 => by
    have ih := reach_stay h d
    show roundS (reachK x (k + d)) (k + d) = _
    rw [ih]
    unfold roundS
    rw [List.getElem?_eq_none (by omega)]
theorem reach_end {x : St} {k : Nat} (hx : x.ok = true) (h : (reachK x k).length ≤ k) (hk : k ≤ 80) : reachK x k = reachS x := by
  have := reach_stay h (80 - k)
  rw [show k + (80 - k) = 80 by omega] at this
  exact this.symm
theorem reachS_ok {x : St} (hx : x.ok = true) : goodL (reachS x) := reach_good hx 80
theorem reach_succ {x y : St} {k : Nat} (h : (reachK x k)[k]? = some y) : reachK x (k + 1) = growE y (reachK x k) 9 := by
  show roundS _ _ = _
  unfold roundS
  rw [h]
theorem grow_no {x : St} {L : List St} {j : Nat} (h : allowed x ((j : Int) + 1) = false) : growE x L (j + 1) = growE x L j := by
  show (if _ then _ else _) = _
  rw [h, if_neg (by decide)]
theorem grow_in {x : St} {L : List St} {j : Nat} (h : allowed x ((j : Int) + 1) = true) (h2 : after x ((j : Int) + 1) ∈ growE x L j) : growE x L (j + 1) = growE x L j := by
  show (if _ then _ else _) = _
  rw [h, if_pos rfl]
  unfold addS
  rw [if_pos h2]
theorem grow_new {x : St} {L : List St} {j : Nat} (h : allowed x ((j : Int) + 1) = true) (h2 : after x ((j : Int) + 1) ∉ growE x L j) : growE x L (j + 1) = growE x L j ++ [after x ((j : Int) + 1)] := by
  show (if _ then _ else _) = _
  rw [h, if_pos rfl]
  unfold addS
  rw [if_neg h2]
/-- The events of a list, one after another, from the state x. -/
def growL (x : St) (L : List St) (E : List Int) : List St := E.foldl (fun M ev => addS M (after x ev)) L
theorem growL_snoc (x : St) (L : List St) (E : List Int) (ev : Int) : growL x L (E ++ [ev]) = addS (growL x L E) (after x ev) := by
  unfold growL; rw [List.foldl_append]; rfl
theorem grow_all (x : St) (L : List St) : ∀ j, growE x L j = growL x L (allowA x j)
  | 0 => rfl
  | j + 1 => by
    have ih := grow_all x L j
    cases h : allowed x ((j : Int) + 1)
    · rw [grow_no h, ih]
      unfold allowA
      rw [accB_no (q := fun j => allowed x ((j : Int) + 1)) (x := fun j => (j : Int) + 1) h]
    · have e : allowA x (j + 1) = allowA x j ++ [(j : Int) + 1] := accB_yes (q := fun j => allowed x ((j : Int) + 1)) (x := fun j => (j : Int) + 1) h
      rw [e, growL_snoc, ← ih]
      show (if _ then _ else _) = _
      rw [h, if_pos rfl]
theorem growL_take {x : St} {L : List St} {E : List Int} {i : Nat} {ev : Int} (h : E[i]? = some ev) : growL x L (E.take (i + 1)) = addS (growL x L (E.take i)) (after x ev) := by
  rw [List.take_add_one, h, ← growL_snoc]; rfl
theorem goodL.grows {x : St} {L : List St} (h : goodL L) (hx : x.ok = true) : ∀ (E : List Int) (i : Nat), goodL (growL x L (E.take i))
  | E, 0 => by simpa [growL] using h
  | E, i + 1 => by
    have ih := goodL.grows h hx E i
    cases he : E[i]? with
    | none =>
      rw [List.take_add_one, he]
      simpa using ih
    | some ev => rw [growL_take he]; exact ih.add (after_ok hx)
theorem growL_pre (x : St) (L : List St) : ∀ (E : List Int) (i : Nat), ∃ t, growL x L (E.take i) = L ++ t
  | E, 0 => ⟨[], by simp [growL]⟩
  | E, i + 1 => by
    obtain ⟨t, ht⟩ := growL_pre x L E i
    cases he : E[i]? with
    | none => rw [List.take_add_one, he]; exact ⟨t, by simpa using ht⟩
    | some ev =>
      rw [growL_take he, ht]
      obtain ⟨s, hs⟩ := add_pre (L ++ t) (after x ev)
      exact ⟨t ++ s, by rw [hs, List.append_assoc]⟩
theorem growL_len (x : St) (L : List St) (E : List Int) (i : Nat) : L.length ≤ (growL x L (E.take i)).length := by
  obtain ⟨t, ht⟩ := growL_pre x L E i
  rw [ht, List.length_append]; omega
theorem growL_at {x y : St} {L : List St} {k : Nat} (h : L[k]? = some y) (E : List Int) (i : Nat) : (growL x L (E.take i))[k]? = some y := by
  obtain ⟨t, ht⟩ := growL_pre x L E i
  rw [ht, List.getElem?_append_left (by rcases Nat.lt_or_ge k L.length with h1 | h1; exact h1; rw [List.getElem?_eq_none h1] at h; cases h)]
  exact h
/-- Where a state lies in a list, or its length. -/
def posS (L : List St) (y : St) : Nat := fst (fun j => L.getD j St.zero == y) L.length
def idxS (L : List St) (y : St) : Int := idx (fun j => L.getD j St.zero == y) L.length
theorem idxS_eq (L : List St) (y : St) : idxS L y = if posS L y < L.length then (posS L y : Int) else -1 := rfl
theorem posS_mem {L : List St} {y : St} : posS L y < L.length ↔ y ∈ L := by
  constructor
  · intro h
    have := fst_true (q := fun j => L.getD j St.zero == y) h
    simp only [beq_iff_eq] at this
    have e : posS L y = fst (fun j => L.getD j St.zero == y) L.length := rfl
    rw [← e, List.getD_eq_getElem?_getD, List.getElem?_eq_getElem h] at this
    rw [← this]
    exact List.getElem_mem _
  · intro h
    obtain ⟨k, hk, e⟩ := List.getElem_of_mem h
    rcases Nat.lt_or_ge (posS L y) L.length with h1 | h1
    · exact h1
    · have := fst_false (q := fun j => L.getD j St.zero == y) (j := k) (n := L.length) (by unfold posS at h1; omega)
      simp only [beq_eq_false_iff_ne, ne_eq] at this
      rw [List.getD_eq_getElem?_getD, List.getElem?_eq_getElem hk] at this
      exact absurd e this
theorem idxS_in {L : List St} {y : St} (h : y ∈ L) : 0 ≤ idxS L y ∧ idxS L y < L.length := by
  have := posS_mem.2 h
  rw [idxS_eq, if_pos this]; omega
theorem idxS_out {L : List St} {y : St} (h : y ∉ L) : idxS L y = -1 := by
  rw [idxS_eq, if_neg (fun h' => h (posS_mem.1 h'))]
/-- The first state of a list that is not safe. -/
def badS (L : List St) : Nat := fst (fun j => !safeS (L.getD j St.zero)) L.length
def unsafeC (x : St) : Int := if x.ok = true then (if badS (reachS x) < (reachS x).length then 0 else 3) else 1
def unsafeS (x : St) : St := if unsafeC x = 0 then (reachS x).getD (badS (reachS x)) St.zero else St.zero
def allSafeB (x : St) : Bool := unsafeC x == 3
end Go.Proofs.Ytccejaneammplaa
