/-
  Contracts: a numeral read by the reference.
-/
import Derived.Test.YtejhngkbkcalaaaGreatDoorM1
import Derived.Test.YtejhngkbkcalaaaGreatDoorDec
import Derived.Test.YtejhngkbkcalaaaGreatDoorKX2
namespace Go.Proofs.YtejhngkbkcalaaaGreatDoor
open Go.RowKit
set_option linter.unusedVariables false
set_option linter.unusedSimpArgs false

def nb (s : ByteArray) (j : Nat) : Int := ((s.get! j).toNat : Int)
def nOff (s : ByteArray) : Nat := if 0 < s.size ∧ nb s 0 = 45 then 1 else 0
def nV (s : ByteArray) (o : Nat) : Nat → Int
  | 0 => 0
  | k + 1 => 10 * nV s o k + (nb s (o + k) - 48)
def nBad (s : ByteArray) (o : Nat) : Bool := decide (s.size = o) || decide (18 < s.size - o) || (decide (nb s o = 48) && decide (1 < s.size))
def nAll (s : ByteArray) (o : Nat) : Bool := !any (fun j => !inB (nb s (o + j)) 48 57) (s.size - o)
def numOk (s : ByteArray) : Bool := !nBad s (nOff s) && nAll s (nOff s)
def numV (s : ByteArray) : Int := if nOff s = 1 then -nV s 1 (s.size - 1) else nV s 0 s.size
def numR (s : ByteArray) : Int := if numOk s = true then numV s else 0
theorem nV_bd (s : ByteArray) (o : Nat) : ∀ k, any (fun j => !inB (nb s (o + j)) 48 57) k = false → 0 ≤ nV s o k ∧ nV s o k < 10 ^ k
  | 0, _ => by simp [nV]
  | k + 1, h => by
    have ih := nV_bd s o k (any_false.2 fun j hj => any_false.1 h j (by omega))
    have hk := any_false.1 h k (by omega)
    have hi : inB (nb s (o + k)) 48 57 = true := by simpa using hk
    rw [inB_true] at hi
    rw [nV, Int.pow_succ]
    omega
theorem pow18 {k : Nat} (h : k ≤ 17) : (10 : Int) ^ k ≤ 100000000000000000 := by
  have : k = 0 ∨ k = 1 ∨ k = 2 ∨ k = 3 ∨ k = 4 ∨ k = 5 ∨ k = 6 ∨ k = 7 ∨ k = 8 ∨ k = 9 ∨ k = 10 ∨ k = 11 ∨ k = 12 ∨ k = 13 ∨ k = 14 ∨ k = 15 ∨ k = 16 ∨ k = 17 := by omega
  rcases this with rfl | rfl | rfl | rfl | rfl | rfl | rfl | rfl | rfl | rfl | rfl | rfl | rfl | rfl | rfl | rfl | rfl | rfl <;> decide
theorem pow19 {k : Nat} (h : k ≤ 18) : (10 : Int) ^ k ≤ 1000000000000000000 := by
  rcases Nat.lt_or_ge k 18 with h1 | h1
  · have := pow18 (k := k) (by omega); omega
  · obtain rfl : k = 18 := by omega
    decide

end Go.Proofs.YtejhngkbkcalaaaGreatDoor
