/-
  Contracts: the text of a passing; the walk of its law.
-/
import Derived.Test.YtejhngkbkcalaaaGreatDoorDci
import Derived.Test.YtejhngkbkcalaaaGreatDoorM1
namespace Go.Proofs.YtejhngkbkcalaaaGreatDoor
open Go.RowKit
set_option linter.unusedVariables false
set_option linter.unusedSimpArgs false

def passingTx (i j : Int) : ByteArray := dtx i ++ (⟨#[64]⟩ : ByteArray) ++ dtx j
def passingOk (i j : Int) : Bool := inB i 0 15 && inB j 0 1000000
def passingText (i j : Int) : ByteArray := if passingOk i j = true then passingTx i j else ⟨#[]⟩
theorem passing_bd {i j : Int} (h : passingOk i j = true) : 0 ≤ i ∧ i ≤ 15 ∧ 0 ≤ j ∧ j ≤ 1000000 := by
  unfold passingOk at h; rw [Bool.and_eq_true, inB_true, inB_true] at h; omega
theorem passing_adds (P : Program) {i j : Int} (h0 : 0 ≤ i) (h1 : i ≤ 15) (h2 : 0 ≤ j) (h3 : j ≤ 1000000) :
    (∀ w, (Op.stringOp .add (dtx i) (⟨#[64]⟩ : ByteArray)).run P w = .ok (.string (dtx i ++ (⟨#[64]⟩ : ByteArray))) w) ∧ (∀ w, (Op.stringOp .add (dtx i ++ (⟨#[64]⟩ : ByteArray)) (dtx j)).run P w = .ok (.string (dtx i ++ (⟨#[64]⟩ : ByteArray) ++ dtx j)) w) := by
  have a := dtx_size (n := i) (by omega) (by omega)
  have b := dtx_size (n := j) (by omega) (by omega)
  have c : ((⟨#[64]⟩ : ByteArray) : ByteArray).size = 1 := rfl
  refine ⟨str_add (by omega), str_add ?_⟩
  rw [ByteArray.size_append]; omega

end Go.Proofs.YtejhngkbkcalaaaGreatDoor
