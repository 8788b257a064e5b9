/-
  Contracts: names.
-/
import Derived.Test.YtejhngkbkcalaaaGreatDoorKC
import Derived.Test.YtejhngkbkcalaaaGreatDoorM1
import Derived.Laws.IdiomStrings
import Derived.WalkLawsBesides
import Derived.Lib.Hide
namespace Go.Proofs.YtejhngkbkcalaaaGreatDoor
open Go.RowKit
set_option linter.unusedVariables false
set_option linter.unusedSimpArgs false


theorem bytes_cell (w : World) (s : ByteArray) (c : Nat) (e : TypeId) (f : Nat × Nat) {j : Nat} (h : j < s.size) : (w.drew.alloc (.cells (bytesRow s c) e f)).cell? ⟨w.heap.size, j, none⟩ = some (.int .u8 ((s.get! j).toNat : Int)) := by
  have h1 : (bytesRow s c)[j]? = some (.int .u8 ((s.get! j).toNat : Int)) := by
    unfold bytesRow
    rw [Array.getElem?_append_left (by simpa using h)]
    rw [Array.getElem?_map]
    have : s.data[j]? = some (s.get! j) := by
      rw [Array.getElem?_eq_getElem (by simpa using h)]
      simp [ByteArray.get!, getElem!_pos, h]
    rw [this]; rfl
  have h2 : (w.alloc (.cells (bytesRow s c) e f)).heap[w.heap.size]? = some (.cells (bytesRow s c) e f) := by
    show (w.heap.push _)[w.heap.size]? = _
    simp
  show (w.alloc (.cells (bytesRow s c) e f)).cell? ⟨w.heap.size, j, none⟩ = _
  unfold World.cell?
  simp only [h2]
  exact h1
theorem nameAt_eq {s : ByteArray} {k : Nat} {z : Int} (h : ((s.get! k).toNat : Int) = z) : nameAt s k = (inB z 97 122 || (decide (0 < k) && inB z 48 57)) := by
  unfold nameAt smallB digitB; rw [h]
theorem inB_lo {z a b : Int} (h : z < a) : inB z a b = false := by
  cases hh : inB z a b
  · rfl
  · exact absurd (inB_true.1 hh).1 (by omega)
theorem inB_hi {z a b : Int} (h : b < z) : inB z a b = false := by
  cases hh : inB z a b
  · rfl
  · exact absurd (inB_true.1 hh).2 (by omega)
theorem any_step {q : Nat → Bool} {k : Nat} (h : any q k = false) (hk : q k = false) : any q (k + 1) = false := any_false.2 (fun j hj => by
  rcases Nat.lt_or_ge j k with h1 | h1
  · exact any_false.1 h j h1
  · obtain rfl : j = k := by omega
    exact hk)
theorem get_byte {s : ByteArray} {k : Nat} (h : k < s.size) : s[k]'h = s.get! k := by
  simp [ByteArray.get!, getElem!_pos, h]
  rfl

end Go.Proofs.YtejhngkbkcalaaaGreatDoor
