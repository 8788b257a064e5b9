/-
  Contracts of small functions of the program.
-/
import Derived.Test.YtccejaneammplaaRows
import Derived.Test.YtccejaneammplaaPl
import Derived.Handy
import Derived.WalkLawsBesides
import Derived.WalkSpells
import Derived.Outline
import Derived.BigGuardPart
namespace Go.Proofs.Ytccejaneammplaa
open Go.RowKit


theorem impl_within (n a b : Int) (w : World) : Calls Try.prog 34 #[.int .i64 n, .int .i64 a, .int .i64 b] w fun e w' => e = .returned (.bool (inB n a b)) ∧ w = w' := by
  by_cases h1 : a ≤ n <;> by_cases h2 : n ≤ b
  all_goals
    go_enter Try.func34, Try.ntmps34
    go_wp2
    go_ret
    exact ⟨by simp [inB, *] <;> omega, rfl⟩

theorem spec_l00In (n a b : Int) (w : World) : Calls Try.prog 35 #[.int .i64 n, .int .i64 a, .int .i64 b] w fun e w' => e = .returned (.bool (inB n a b)) ∧ w = w' := by
  by_cases h1 : a ≤ n <;> by_cases h2 : n ≤ b
  all_goals
    go_enter Try.func35, Try.ntmps35
    go_wp2
    go_ret
    exact ⟨by simp [inB, *] <;> omega, rfl⟩

theorem impl_isMode (n : Int) (w : World) : Calls Try.prog 22 #[.int .i64 n] w fun e w' => e = .returned (.bool (inB n 0 4)) ∧ w = w' := by
  go_enter Try.func22, Try.ntmps22
  go_wp2_with (go_at_call 34; go_call impl_within as e w' ⟨rfl, rfl⟩)
  go_returns
  exact ⟨rfl, rfl⟩

theorem impl_isEvent (n : Int) (w : World) : Calls Try.prog 23 #[.int .i64 n] w fun e w' => e = .returned (.bool (inB n 1 9)) ∧ w = w' := by
  go_enter Try.func23, Try.ntmps23
  go_wp2_with (go_at_call 34; go_call impl_within as e w' ⟨rfl, rfl⟩)
  go_returns
  exact ⟨rfl, rfl⟩

theorem spec_l13Event (n : Int) (w : World) : Calls Try.prog 27 #[.int .i64 n] w fun e w' => e = .returned (.bool (inB n 1 9)) ∧ w = w' := by
  go_enter Try.func27, Try.ntmps27
  go_wp2_with (go_at_call 35; go_call spec_l00In as e w' ⟨rfl, rfl⟩)
  go_returns
  exact ⟨rfl, rfl⟩

theorem impl_ModeName (p : Int) (w : World) : Calls Try.prog 7 #[.int .i64 p] w fun e w' => e = .returned (.string (modeName p)) ∧ Below w.heap.size w w' := by
  by_cases h : 0 ≤ p ∧ p ≤ 4
  · have hi : inB p 0 4 = true := inB_true.2 h
    obtain ⟨h1, h2⟩ := h
    rcases (show p = 0 ∨ p = 1 ∨ p = 2 ∨ p = 3 ∨ p = 4 by omega) with rfl | rfl | rfl | rfl | rfl
    all_goals
      go_enter Try.func7, Try.ntmps7
      go_wp2_with (go_at_call 22; go_call impl_isMode as e w' ⟨rfl, rfl⟩)
      go_returns
      exact ⟨by simp [modeName], by go_grown⟩
  · have hi : inB p 0 4 = false := inB_false.2 h
    go_enter Try.func7, Try.ntmps7
    go_wp2_with (go_at_call 22; go_call impl_isMode as e w' ⟨rfl, rfl⟩)
    go_returns
    exact ⟨by rw [modeName_out h]; rfl, by go_grown⟩

set_option maxHeartbeats 1000000 in
theorem impl_EventName (p : Int) (w : World) : Calls Try.prog 11 #[.int .i64 p] w fun e w' => e = .returned (.string (eventName p)) ∧ Below w.heap.size w w' := by
  by_cases h : 1 ≤ p ∧ p ≤ 9
  · have hi : inB p 1 9 = true := inB_true.2 h
    obtain ⟨h1, h2⟩ := h
    rcases (show p = 1 ∨ p = 2 ∨ p = 3 ∨ p = 4 ∨ p = 5 ∨ p = 6 ∨ p = 7 ∨ p = 8 ∨ p = 9 by omega) with rfl | rfl | rfl | rfl | rfl | rfl | rfl | rfl | rfl
    all_goals
      go_enter Try.func11, Try.ntmps11
      go_wp2_with (go_at_call 23; go_call impl_isEvent as e w' ⟨rfl, rfl⟩)
      go_returns
      exact ⟨by simp [eventName], by go_grown⟩
  · have hi : inB p 1 9 = false := inB_false.2 h
    go_enter Try.func11, Try.ntmps11
    go_wp2_with (go_at_call 23; go_call impl_isEvent as e w' ⟨rfl, rfl⟩)
    go_returns
    exact ⟨by rw [eventName_out h]; rfl, by go_grown⟩

end Go.Proofs.Ytccejaneammplaa
