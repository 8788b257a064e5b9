/-
  Contract: strings.Cut at one byte.
-/
import Derived.Test.YteccpafoojkmjaaGreatDoorNc
import Derived.Test.YteccpafoojkmjaaGreatDoorSh5
import Derived.Test.YteccpafoojkmjaaGreatDoorMx
namespace Go.Proofs.YteccpafoojkmjaaGreatDoor
open Go.RowKit
set_option linter.unusedVariables false
set_option linter.unusedSimpArgs false


theorem below_drewN (w : World) (n : Nat) : Below w.heap.size w (w.drewN n) := ⟨rfl, rfl, rfl, Nat.le_refl _, fun _ _ => rfl⟩
theorem strings_Cut_c (s : ByteArray) (c : UInt8) (w : World) (hs : s.size ≤ 1048576) (hm : MaxAt w) :
    Calls Tryz.prog 26 #[.string s, .string ⟨#[c]⟩] w fun e w' => (∃ b, e = .returned (.tuple #[.string (cutA s c), .string (cutB s c), .bool b])) ∧ Below w.heap.size w w' := by
  obtain ⟨m, hm⟩ := hm
  exact (Go.Proofs.Tryz.strings_Cut s ⟨#[c]⟩ m w (by omega) hm).mono fun e w' ⟨he, n, hw⟩ => ⟨⟨_, he⟩, by rw [hw]; exact below_drewN _ _⟩

end Go.Proofs.YteccpafoojkmjaaGreatDoor
