/-
  Contracts of small functions of the program.
-/
import Derived.Test.YtdilenfhnanepaaDoorRows
import Derived.Test.YtdilenfhnanepaaDoorPl
import Derived.Handy
import Derived.WalkLawsBesides
import Derived.WalkSpells
import Derived.Outline
import Derived.BigGuardPart
namespace Go.Proofs.YtdilenfhnanepaaDoor
open Go.RowKit


theorem impl_within (n a b : Int) (w : World) : Calls Tryd.prog 37 #[.int .i64 n, .int .i64 a, .int .i64 b] w fun e w' => e = .returned (.bool (inB n a b)) ∧ w = w' := by
  by_cases h1 : a ≤ n <;> by_cases h2 : n ≤ b
  all_goals
    go_enter Tryd.func37, Tryd.ntmps37
    go_wp2
    go_ret
    exact ⟨by simp [inB, *] <;> omega, rfl⟩

theorem spec_l00In (n a b : Int) (w : World) : Calls Tryd.prog 41 #[.int .i64 n, .int .i64 a, .int .i64 b] w fun e w' => e = .returned (.bool (inB n a b)) ∧ w = w' := by
  by_cases h1 : a ≤ n <;> by_cases h2 : n ≤ b
  all_goals
    go_enter Tryd.func41, Tryd.ntmps41
    go_wp2
    go_ret
    exact ⟨by simp [inB, *] <;> omega, rfl⟩

theorem impl_DoorName (p : Int) (w : World) : Calls Tryd.prog 39 #[.int .i64 p] w fun e w' => e = .returned (.string (doorName p)) ∧ Below w.heap.size w w' := by
  by_cases h : 0 ≤ p ∧ p ≤ 3
  · have hi : inB p 0 3 = true := inB_true.2 h
    obtain ⟨h1, h2⟩ := h
    rcases (show p = 0 ∨ p = 1 ∨ p = 2 ∨ p = 3 by omega) with rfl | rfl | rfl | rfl
    all_goals
      go_enter Tryd.func39, Tryd.ntmps39
      go_wp2_with (go_at_call 37; go_call impl_within as e w' ⟨rfl, rfl⟩)
      go_returns
      exact ⟨by simp [doorName], by go_grown⟩
  · have hi : inB p 0 3 = false := inB_false.2 h
    go_enter Tryd.func39, Tryd.ntmps39
    go_wp2_with (go_at_call 37; go_call impl_within as e w' ⟨rfl, rfl⟩)
    go_returns
    exact ⟨by rw [doorName_out h]; rfl, by go_grown⟩

theorem spec_DoorName (p : Int) (w : World) : Calls Tryd.prog 35 #[.int .i64 p] w fun e w' => e = .returned (.string (doorName p)) ∧ Below w.heap.size w w' := by
  by_cases h : 0 ≤ p ∧ p ≤ 3
  · have hi : inB p 0 3 = true := inB_true.2 h
    obtain ⟨h1, h2⟩ := h
    rcases (show p = 0 ∨ p = 1 ∨ p = 2 ∨ p = 3 by omega) with rfl | rfl | rfl | rfl
    all_goals
      go_enter Tryd.func35, Tryd.ntmps35
      go_wp2_with (go_at_call 41; go_call spec_l00In as e w' ⟨rfl, rfl⟩)
      go_returns
      exact ⟨by simp [doorName], by go_grown⟩
  · have hi : inB p 0 3 = false := inB_false.2 h
    go_enter Tryd.func35, Tryd.ntmps35
    go_wp2_with (go_at_call 41; go_call spec_l00In as e w' ⟨rfl, rfl⟩)
    go_returns
    exact ⟨by rw [doorName_out h]; rfl, by go_grown⟩

end Go.Proofs.YtdilenfhnanepaaDoor
