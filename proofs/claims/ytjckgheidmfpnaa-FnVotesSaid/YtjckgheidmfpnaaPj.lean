/-
  Plain definitions: settled numbers. No program in sight.
-/
import Derived.Test.YtjckgheidmfpnaaPh
import Derived.Test.YtjckgheidmfpnaaPk
namespace Go.Proofs.Ytjckgheidmfpnaa
open Go.RowKit
set_option linter.unusedVariables false
set_option linter.unusedSimpArgs false

theorem range_snoc {α : Type} (f : Nat → α) (k : Nat) : (List.range (k + 1)).map f = (List.range k).map f ++ [f k] := by simp [List.range_succ]
/-- How often the last of the first k numbers came in a row. -/
def rowZ (Z : Nat → Int) : Nat → Int
  | 0 => 0
  | k + 1 => if k = 0 then 1 else if Z k = Z (k - 1) then rowZ Z k + 1 else 1
theorem rowZ_bd (Z : Nat → Int) (k : Nat) : 0 ≤ rowZ Z k ∧ rowZ Z k ≤ k := by
  induction k with
  | zero => exact ⟨Int.le_refl 0, Int.le_refl 0⟩
  | succ k ih =>
    unfold rowZ
    split
    · omega
    · split <;> omega
def lastZ (Z : Nat → Int) (t : Int) : Nat → Int
  | 0 => 0
  | k + 1 => if t ≤ rowZ Z (k + 1) then Z k else if k = 0 then Z 0 else lastZ Z t k
theorem row_1 (Z : Nat → Int) : rowZ Z 1 = 1 := rfl
theorem last_1 (Z : Nat → Int) (t : Int) : lastZ Z t 1 = Z 0 := by
  show (if t ≤ rowZ Z 1 then Z 0 else _) = _
  split <;> rfl
theorem row_same {Z : Nat → Int} {m : Nat} (h : (Z (m + 1) != Z m) = false) : rowZ Z (m + 1 + 1) = rowZ Z (m + 1) + 1 := by
  have e : Z (m + 1) = Z m := by simpa using h
  show (if m + 1 = 0 then _ else if Z (m + 1) = Z (m + 1 - 1) then _ else _) = _
  rw [if_neg (by omega), if_pos (by simpa using e)]
theorem row_other {Z : Nat → Int} {m : Nat} (h : (Z (m + 1) != Z m) = true) : rowZ Z (m + 1 + 1) = 1 := by
  have e : Z (m + 1) ≠ Z m := by simpa using h
  show (if m + 1 = 0 then _ else if Z (m + 1) = Z (m + 1 - 1) then _ else _) = _
  rw [if_neg (by omega), if_neg (by simpa using e)]
theorem last_new {Z : Nat → Int} {t : Int} {k : Nat} (h : t ≤ rowZ Z (k + 1)) : lastZ Z t (k + 1) = Z k := by
  show (if t ≤ rowZ Z (k + 1) then _ else _) = _
  rw [if_pos h]
theorem last_old {Z : Nat → Int} {t : Int} {m : Nat} (h : ¬ t ≤ rowZ Z (m + 1 + 1)) : lastZ Z t (m + 1 + 1) = lastZ Z t (m + 1) := by
  show (if t ≤ rowZ Z (m + 1 + 1) then _ else if m + 1 = 0 then _ else _) = _
  rw [if_neg h, if_neg (by omega)]
def settledOk (Z : Nat → Int) (t : Int) (n : Nat) : Bool := readV Z n && inB t 1 32
def settledL (Z : Nat → Int) (t : Int) (n : Nat) : List Int := if settledOk Z t n = true then (List.range n).map fun j => lastZ Z t (j + 1) else []
def settledCode (Z : Nat → Int) (t : Int) (n : Nat) : Int := if settledOk Z t n = true then 0 else 2
theorem settledL_len {Z : Nat → Int} {t : Int} {n : Nat} (hn : n ≤ 1048576) : (settledL Z t n).length ≤ 1048576 := by
  unfold settledL; split
  · simpa using hn
  · simp
theorem settled_no {Z : Nat → Int} {t : Int} {n : Nat} (h : settledOk Z t n = false) : settledL Z t n = [] ∧ settledCode Z t n = 2 := by
  unfold settledL settledCode; rw [h]; exact ⟨rfl, rfl⟩
theorem settled_yes {Z : Nat → Int} {t : Int} {n : Nat} (h : settledOk Z t n = true) : settledL Z t n = ((List.range n).map fun j => lastZ Z t (j + 1)) ∧ settledCode Z t n = 0 := by
  unfold settledL settledCode; rw [h]; exact ⟨rfl, rfl⟩
end Go.Proofs.Ytjckgheidmfpnaa
