/-
  Contracts: the text of a brake; the walk of its law.
-/
import Derived.Test.YtejhngkbkcalaaaGreatDoorDci
import Derived.Test.YtejhngkbkcalaaaGreatDoorM1
namespace Go.Proofs.YtejhngkbkcalaaaGreatDoor
open Go.RowKit
open Go.Lib (itoa)
set_option linter.unusedVariables false
set_option linter.unusedSimpArgs false

def brakeTx (d f : Int) : ByteArray := dtx d ++ ⟨#[43]⟩ ++ dtx f
def brakeText (d f : Int) : ByteArray := if validBrake d f = true then brakeTx d f else ⟨#[]⟩
theorem validBrake_bd' {d f : Int} (h : validBrake d f = true) : 0 ≤ d ∧ d ≤ 100 ∧ 1 ≤ f ∧ f ≤ 10000 := by
  unfold validBrake at h; rw [Bool.and_eq_true, inB_true, inB_true] at h; omega
theorem brake_adds (P : Program) {d f : Int} (h0 : 0 ≤ d) (h1 : d ≤ 100) (h2 : 1 ≤ f) (h3 : f ≤ 10000) :
    (∀ w, (Op.stringOp .add (dtx d) ⟨#[43]⟩).run P w = .ok (.string (dtx d ++ ⟨#[43]⟩)) w) ∧ (∀ w, (Op.stringOp .add (dtx d ++ ⟨#[43]⟩) (dtx f)).run P w = .ok (.string (dtx d ++ ⟨#[43]⟩ ++ dtx f)) w) := by
  have a := dtx_size (n := d) (by omega) (by omega)
  have b := dtx_size (n := f) (by omega) (by omega)
  have c : (⟨#[43]⟩ : ByteArray).size = 1 := rfl
  refine ⟨str_add (by omega), str_add ?_⟩
  rw [ByteArray.size_append]; omega

end Go.Proofs.YtejhngkbkcalaaaGreatDoor
