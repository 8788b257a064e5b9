/-
  Contract: strings.Cut at one byte.
-/
import Derived.Test.YtpmdkadfmieieaaNc
import Derived.Test.YtpmdkadfmieieaaSh5
namespace Go.Proofs.Ytpmdkadfmieieaa
open Go.RowKit
set_option linter.unusedVariables false
set_option linter.unusedSimpArgs false


/-- The library's variable holds some number. -/
def MaxAt (w : World) : Prop := ∃ m, w.cell? ⟨0, 0, none⟩ = some (.int .i64 m)
theorem MaxAt.below {w w' : World} (h : MaxAt w) (hb : Below w.heap.size w w') : MaxAt w' := by
  obtain ⟨m, hm⟩ := h
  exact ⟨m, (hb.cell (p := ⟨0, 0, none⟩) (World.block_lt_of_cell? w _ hm)).trans hm⟩
theorem below_drewN (w : World) (n : Nat) : Below w.heap.size w (w.drewN n) := ⟨rfl, rfl, rfl, Nat.le_refl _, fun _ _ => rfl⟩
theorem strings_Cut_c (s : ByteArray) (c : UInt8) (w : World) (hs : s.size ≤ 1048576) (hm : MaxAt w) :
    Calls Try.prog 33 #[.string s, .string ⟨#[c]⟩] w fun e w' => (∃ b, e = .returned (.tuple #[.string (cutA s c), .string (cutB s c), .bool b])) ∧ Below w.heap.size w w' := by
  obtain ⟨m, hm⟩ := hm
  exact (Go.Proofs.Try.strings_Cut s ⟨#[c]⟩ m w (by omega) hm).mono fun e w' ⟨he, n, hw⟩ => ⟨⟨_, he⟩, by rw [hw]; exact below_drewN _ _⟩

end Go.Proofs.Ytpmdkadfmieieaa
