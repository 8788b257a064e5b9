/-
  Contract: strings.Split at one byte.
-/
import Derived.Test.YtejhngkbkcalaaaGreatDoorNsp
import Derived.Test.YtejhngkbkcalaaaGreatDoorMx
import Derived.Test.YtejhngkbkcalaaaGreatDoorSh6
import Derived.Test.YtejhngkbkcalaaaGreatDoorTs
import Derived.Laws.OwnMore
namespace Go.Proofs.YtejhngkbkcalaaaGreatDoor
open Go.RowKit
set_option linter.unusedVariables false
set_option linter.unusedSimpArgs false

theorem strings_Split_c (s : ByteArray) (c : UInt8) (w : World) (hs : s.size ≤ 1048576) (hm : MaxAt w) :
    Calls Tryz.prog 54 #[.string s, .string ⟨#[c]⟩] w fun e w' => (∃ v, e = .returned v ∧ StrsOf w.heap.size w' v (splitL s (c.toNat : Int))) ∧ Below w.heap.size w w' := by
  obtain ⟨m, hm⟩ := hm
  refine (Go.Proofs.Tryz.strings_Split s ⟨#[c]⟩ m w (by omega) hm (Nat.le_refl 1)).mono fun e w' ⟨he, hw⟩ => ⟨⟨_, he, ?_⟩, by rw [hw]; exact Below.alloc (Below.refl _ _) (Nat.le_refl _) _⟩
  have hl : (Go.Lib.splitB ⟨#[c]⟩ 0 (Go.Lib.countB s ⟨#[c]⟩) s).length = Go.Lib.countB s ⟨#[c]⟩ + 1 := Go.Lib.splitB_all ⟨#[c]⟩ (Nat.le_refl 1) 0 _ s rfl
  have hc := Go.Lib.countB_le ⟨#[c]⟩ (Nat.le_refl 1) s.size s (Nat.le_refl _)
  have h := World.ownsRow_lit (base := w.heap.size) (e := 9) (size := 1) w ((Go.Lib.splitB ⟨#[c]⟩ 0 (Go.Lib.countB s ⟨#[c]⟩) s).map Value.string).toArray (Go.Lib.countB s ⟨#[c]⟩ + 1) (Nat.le_refl _) (by unfold maxLen; omega) (by simp [hl])
  rw [hw]
  unfold StrsOf
  rw [← split_B, hl]
  simpa using h
theorem splitL_len (s : ByteArray) (c : UInt8) : 1 ≤ (splitL s (c.toNat : Int)).length ∧ (splitL s (c.toNat : Int)).length ≤ s.size + 1 := by
  rw [← split_B, Go.Lib.splitB_all ⟨#[c]⟩ (Nat.le_refl 1) 0 _ s rfl]
  have hc := Go.Lib.countB_le ⟨#[c]⟩ (Nat.le_refl 1) s.size s (Nat.le_refl _)
  omega
end Go.Proofs.YtejhngkbkcalaaaGreatDoor
