/-
  Plain definitions: turns, speeds, missed switches. No program in sight.
-/
import Derived.Test.YtjckgheidmfpnaaPn
import Derived.Test.YtjckgheidmfpnaaPb
import Derived.Test.YtjckgheidmfpnaaPj
import Derived.Test.YtjckgheidmfpnaaPg
namespace Go.Proofs.Ytjckgheidmfpnaa
open Go.RowKit
set_option linter.unusedVariables false
set_option linter.unusedSimpArgs false

def okL (b : Bool) (L : List Int) : List Int := if b = true then L else []
def okC (b : Bool) (c : Int) : Int := if b = true then 0 else c
theorem okL_no (L : List Int) : okL false L = [] := rfl
theorem okL_yes (L : List Int) : okL true L = L := rfl
theorem okC_no (c : Int) : okC false c = c := rfl
theorem okC_yes (c : Int) : okC true c = 0 := rfl
theorem okL_len {b : Bool} {L : List Int} {n : Nat} (h : L.length ≤ n) : (okL b L).length ≤ n := by
  cases b
  · show 0 ≤ n; omega
  · exact h
/-- One more number at the end, or none. -/
def put1 (b : Bool) (x : Int) : List Int := if b = true then [x] else []
def accB (q : Nat → Bool) (x : Nat → Int) : Nat → List Int
  | 0 => []
  | j + 1 => accB q x j ++ put1 (q j) (x j)
theorem accB_len (q : Nat → Bool) (x : Nat → Int) (n : Nat) : (accB q x n).length ≤ n := by
  induction n with
  | zero => exact Nat.le_refl _
  | succ n ih =>
    show (accB q x n ++ put1 (q n) (x n)).length ≤ n + 1
    rw [List.length_append]
    have : (put1 (q n) (x n)).length ≤ 1 := by unfold put1; split <;> simp
    omega
theorem accB_yes {q : Nat → Bool} {x : Nat → Int} {j : Nat} (h : q j = true) : accB q x (j + 1) = accB q x j ++ [x j] := by
  show accB q x j ++ put1 (q j) (x j) = _
  rw [h]; rfl
theorem accB_no {q : Nat → Bool} {x : Nat → Int} {j : Nat} (h : q j = false) : accB q x (j + 1) = accB q x j := by
  show accB q x j ++ put1 (q j) (x j) = _
  rw [h]; exact List.append_nil _
/-- Behind passing j + 1 the car goes the other way. -/
def turnB (S : Nat → Int) (j : Nat) : Bool := (decide (S j < S (j + 1))) != (decide (S (j + 1) < S (j + 2)))
def turnsA (S : Nat → Int) (j : Nat) : List Int := accB (turnB S) (fun j => (j : Int) + 1) j
/-- The speed between passings j and j + 1. -/
def spdV (Z S T : Nat → Int) (j : Nat) : Int := nearV (absV (Z (S (j + 1)).toNat - Z (S j).toNat)) (T (j + 1) - T j)
def speedsA (Z : Nat → Int) (S T : Nat → Int) (j : Nat) : List Int := (List.range j).map (spdV Z S T)
theorem speedsA_len (Z S T : Nat → Int) (j : Nat) : (speedsA Z S T j).length = j := by simp [speedsA]
theorem speedsA_next (Z S T : Nat → Int) (j : Nat) : speedsA Z S T (j + 1) = speedsA Z S T j ++ [spdV Z S T j] := range_snoc _ j
theorem speedsA_at {Z S T : Nat → Int} {j k : Nat} (h : k < j) : (speedsA Z S T j).getD k 0 = spdV Z S T k := by simp [speedsA, h]
theorem absV_bd {x a : Int} (h1 : -a ≤ x) (h2 : x ≤ a) : 0 ≤ absV x ∧ absV x ≤ a := by unfold absV; split <;> omega
theorem absV_max' (x : Int) : max x (-x) = absV x := by unfold absV; split <;> omega
def fastB (Z S T : Nat → Int) (most : Int) (j : Nat) : Bool := decide (most < spdV Z S T j)
def fastA (Z S T : Nat → Int) (most : Int) (j : Nat) : List Int := accB (fastB Z S T most) (fun j => (j : Int) + 1) j
def fastOk (Z : Nat → Int) (n : Nat) (S T : Nat → Int) (m : Nat) (most : Int) : Bool := passOk Z n S T m && inB most 0 100000
def fastC (Z : Nat → Int) (n : Nat) (S T : Nat → Int) (m : Nat) (most : Int) : Int := if passOk Z n S T m = true then okC (inB most 0 100000) 2 else 1
end Go.Proofs.Ytjckgheidmfpnaa
