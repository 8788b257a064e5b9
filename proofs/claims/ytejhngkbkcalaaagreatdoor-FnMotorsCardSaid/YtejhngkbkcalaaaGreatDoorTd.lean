/-
  Contracts: the text of a door; the walk of its law.
-/
import Derived.Test.YtejhngkbkcalaaaGreatDoorDci
import Derived.Test.YtejhngkbkcalaaaGreatDoorKC
import Derived.Test.YtejhngkbkcalaaaGreatDoorM1
namespace Go.Proofs.YtejhngkbkcalaaaGreatDoor
open Go.RowKit
set_option linter.unusedVariables false
set_option linter.unusedSimpArgs false

def doorTx (p k r : Int) : ByteArray := doorName p ++ ⟨#[47]⟩ ++ dtx k ++ ⟨#[47]⟩ ++ dtx r
def doorText (p k r : Int) : ByteArray := if validDoor p k r = true then doorTx p k r else ⟨#[]⟩
theorem validDoor_bd' {p k r : Int} (h : validDoor p k r = true) : 0 ≤ k ∧ k ≤ 2 ∧ 0 ≤ r ∧ r ≤ 3 := by
  unfold validDoor at h
  rw [Bool.and_eq_true] at h
  have h2 := h.2
  split at h2
  · rw [Bool.and_eq_true, inB_true, inB_true] at h2; omega
  · rw [Bool.and_eq_true, beq_iff_eq, beq_iff_eq] at h2; omega
theorem doorName_size (p : Int) : (doorName p).size ≤ 8 := by
  unfold doorName
  split
  · exact (by decide : (⟨#[115, 104, 117, 116]⟩ : ByteArray).size ≤ 8)
  · split
    · exact (by decide : (⟨#[111, 112, 101, 110, 105, 110, 103]⟩ : ByteArray).size ≤ 8)
    · split
      · exact (by decide : (⟨#[111, 112, 101, 110]⟩ : ByteArray).size ≤ 8)
      · split
        · exact (by decide : (⟨#[115, 104, 117, 116, 116, 105, 110, 103]⟩ : ByteArray).size ≤ 8)
        · exact (by decide : (⟨#[]⟩ : ByteArray).size ≤ 8)
theorem door_adds (P : Program) (p : Int) {k r : Int} (h0 : 0 ≤ k) (h1 : k ≤ 2) (h2 : 0 ≤ r) (h3 : r ≤ 3) :
    (∀ w, (Op.stringOp .add (doorName p) ⟨#[47]⟩).run P w = .ok (.string (doorName p ++ ⟨#[47]⟩)) w) ∧ (∀ w, (Op.stringOp .add (doorName p ++ ⟨#[47]⟩) (dtx k)).run P w = .ok (.string (doorName p ++ ⟨#[47]⟩ ++ dtx k)) w) ∧
    (∀ w, (Op.stringOp .add (doorName p ++ ⟨#[47]⟩ ++ dtx k) ⟨#[47]⟩).run P w = .ok (.string (doorName p ++ ⟨#[47]⟩ ++ dtx k ++ ⟨#[47]⟩)) w) ∧ (∀ w, (Op.stringOp .add (doorName p ++ ⟨#[47]⟩ ++ dtx k ++ ⟨#[47]⟩) (dtx r)).run P w = .ok (.string (doorName p ++ ⟨#[47]⟩ ++ dtx k ++ ⟨#[47]⟩ ++ dtx r)) w) := by
  have a := dtx_size (n := k) (by omega) (by omega)
  have b := dtx_size (n := r) (by omega) (by omega)
  have c : (⟨#[47]⟩ : ByteArray).size = 1 := rfl
  have d := doorName_size p
  refine ⟨str_add (by omega), str_add ?_, str_add ?_, str_add ?_⟩ <;> simp only [ByteArray.size_append] <;> omega

end Go.Proofs.YtejhngkbkcalaaaGreatDoor
