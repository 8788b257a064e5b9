/-
  Contracts: a text split at a byte.
-/
import Derived.Test.YtejhngkbkcalaaaGreatDoorTs
import Derived.Test.YtejhngkbkcalaaaGreatDoorDec
import Derived.Test.YtejhngkbkcalaaaGreatDoorKX2
namespace Go.Proofs.YtejhngkbkcalaaaGreatDoor
open Go.RowKit
set_option linter.unusedVariables false
set_option linter.unusedSimpArgs false

def spF (s : ByteArray) (c : Int) : Nat → Nat
  | 0 => 0
  | k + 1 => if ((s.get! k).toNat : Int) = c then k + 1 else spF s c k
def spL (s : ByteArray) (c : Int) : Nat → List ByteArray
  | 0 => []
  | k + 1 => if ((s.get! k).toNat : Int) = c then spL s c k ++ [s.extract (spF s c k) k] else spL s c k
def splitL (s : ByteArray) (c : Int) : List ByteArray := spL s c s.size ++ [s.extract (spF s c s.size) s.size]
theorem spF_le (s : ByteArray) (c : Int) : ∀ k, spF s c k ≤ k
  | 0 => Nat.le_refl _
  | k + 1 => by have := spF_le s c k; unfold spF; split <;> omega
theorem spL_le (s : ByteArray) (c : Int) : ∀ k, (spL s c k).length ≤ k
  | 0 => Nat.le_refl _
  | k + 1 => by
    have := spL_le s c k
    unfold spL
    split
    · rw [List.length_append]; show _ + 1 ≤ _; omega
    · omega

end Go.Proofs.YtejhngkbkcalaaaGreatDoor
