/-
  Contracts of small functions of the program.
-/
import Derived.Test.YtmacccijecpnpaaRows
import Derived.Test.YtmacccijecpnpaaPl
import Derived.Handy
import Derived.WalkLawsBesides
import Derived.WalkSpells
import Derived.Outline
import Derived.BigGuardPart
namespace Go.Proofs.Ytmacccijecpnpaa
open Go.RowKit


theorem impl_within (n a b : Int) (w : World) : Calls Try.prog 54 #[.int .i64 n, .int .i64 a, .int .i64 b] w fun e w' => e = .returned (.bool (inB n a b)) ∧ w = w' := by
  by_cases h1 : a ≤ n <;> by_cases h2 : n ≤ b
  all_goals
    go_enter Try.func54, Try.ntmps54
    go_wp2
    go_ret
    exact ⟨by simp [inB, *] <;> omega, rfl⟩

theorem spec_l00In (n a b : Int) (w : World) : Calls Try.prog 55 #[.int .i64 n, .int .i64 a, .int .i64 b] w fun e w' => e = .returned (.bool (inB n a b)) ∧ w = w' := by
  by_cases h1 : a ≤ n <;> by_cases h2 : n ≤ b
  all_goals
    go_enter Try.func55, Try.ntmps55
    go_wp2
    go_ret
    exact ⟨by simp [inB, *] <;> omega, rfl⟩

theorem impl_DoorName (p : Int) (w : World) : Calls Try.prog 19 #[.int .i64 p] w fun e w' => e = .returned (.string (doorName p)) ∧ Below w.heap.size w w' := by
  by_cases h : 0 ≤ p ∧ p ≤ 3
  · have hi : inB p 0 3 = true := inB_true.2 h
    obtain ⟨h1, h2⟩ := h
    rcases (show p = 0 ∨ p = 1 ∨ p = 2 ∨ p = 3 by omega) with rfl | rfl | rfl | rfl
    all_goals
      go_enter Try.func19, Try.ntmps19
      go_wp2_with (go_at_call 54; go_call impl_within as e w' ⟨rfl, rfl⟩)
      go_returns
      exact ⟨by simp [doorName], by go_grown⟩
  · have hi : inB p 0 3 = false := inB_false.2 h
    go_enter Try.func19, Try.ntmps19
    go_wp2_with (go_at_call 54; go_call impl_within as e w' ⟨rfl, rfl⟩)
    go_returns
    exact ⟨by rw [doorName_out h]; rfl, by go_grown⟩

theorem spec_DoorName (p : Int) (w : World) : Calls Try.prog 18 #[.int .i64 p] w fun e w' => e = .returned (.string (doorName p)) ∧ Below w.heap.size w w' := by
  by_cases h : 0 ≤ p ∧ p ≤ 3
  · have hi : inB p 0 3 = true := inB_true.2 h
    obtain ⟨h1, h2⟩ := h
    rcases (show p = 0 ∨ p = 1 ∨ p = 2 ∨ p = 3 by omega) with rfl | rfl | rfl | rfl
    all_goals
      go_enter Try.func18, Try.ntmps18
      go_wp2_with (go_at_call 55; go_call spec_l00In as e w' ⟨rfl, rfl⟩)
      go_returns
      exact ⟨by simp [doorName], by go_grown⟩
  · have hi : inB p 0 3 = false := inB_false.2 h
    go_enter Try.func18, Try.ntmps18
    go_wp2_with (go_at_call 55; go_call spec_l00In as e w' ⟨rfl, rfl⟩)
    go_returns
    exact ⟨by rw [doorName_out h]; rfl, by go_grown⟩

theorem impl_isMode (n : Int) (w : World) : Calls Try.prog 57 #[.int .i64 n] w fun e w' => e = .returned (.bool (inB n 0 4)) ∧ w = w' := by
  go_enter Try.func57, Try.ntmps57
  go_wp2_with (go_at_call 54; go_call impl_within as e w' ⟨rfl, rfl⟩)
  go_returns
  exact ⟨rfl, rfl⟩

theorem impl_isEvent (n : Int) (w : World) : Calls Try.prog 61 #[.int .i64 n] w fun e w' => e = .returned (.bool (inB n 1 9)) ∧ w = w' := by
  go_enter Try.func61, Try.ntmps61
  go_wp2_with (go_at_call 54; go_call impl_within as e w' ⟨rfl, rfl⟩)
  go_returns
  exact ⟨rfl, rfl⟩

theorem spec_l13Event (n : Int) (w : World) : Calls Try.prog 59 #[.int .i64 n] w fun e w' => e = .returned (.bool (inB n 1 9)) ∧ w = w' := by
  go_enter Try.func59, Try.ntmps59
  go_wp2_with (go_at_call 55; go_call spec_l00In as e w' ⟨rfl, rfl⟩)
  go_returns
  exact ⟨rfl, rfl⟩

theorem impl_isSpeed (n : Int) (w : World) : Calls Try.prog 68 #[.int .i64 n] w fun e w' => e = .returned (.bool (inB n 0 15000)) ∧ w = w' := by
  go_enter Try.func68, Try.ntmps68
  go_wp2_with (go_at_call 54; go_call impl_within as e w' ⟨rfl, rfl⟩)
  go_returns
  exact ⟨rfl, rfl⟩

theorem impl_isWay (n : Int) (w : World) : Calls Try.prog 73 #[.int .i64 n] w fun e w' => e = .returned (.bool (inB n 0 3000000)) ∧ w = w' := by
  go_enter Try.func73, Try.ntmps73
  go_wp2_with (go_at_call 54; go_call impl_within as e w' ⟨rfl, rfl⟩)
  go_returns
  exact ⟨rfl, rfl⟩

theorem impl_isGrade (n : Int) (w : World) : Calls Try.prog 69 #[.int .i64 n] w fun e w' => e = .returned (.bool (inB n 0 900)) ∧ w = w' := by
  go_enter Try.func69, Try.ntmps69
  go_wp2_with (go_at_call 54; go_call impl_within as e w' ⟨rfl, rfl⟩)
  go_returns
  exact ⟨rfl, rfl⟩

theorem impl_isSpot (n : Int) (w : World) : Calls Try.prog 83 #[.int .i64 n] w fun e w' => e = .returned (.bool (inB n 0 4000000)) ∧ w = w' := by
  go_enter Try.func83, Try.ntmps83
  go_wp2_with (go_at_call 54; go_call impl_within as e w' ⟨rfl, rfl⟩)
  go_returns
  exact ⟨rfl, rfl⟩

theorem spec_l11Speed (n : Int) (w : World) : Calls Try.prog 89 #[.int .i64 n] w fun e w' => e = .returned (.bool (inB n 0 15000)) ∧ w = w' := by
  go_enter Try.func89, Try.ntmps89
  go_wp2_with (go_at_call 55; go_call spec_l00In as e w' ⟨rfl, rfl⟩)
  go_returns
  exact ⟨rfl, rfl⟩

theorem impl_ModeName (p : Int) (w : World) : Calls Try.prog 24 #[.int .i64 p] w fun e w' => e = .returned (.string (modeName p)) ∧ Below w.heap.size w w' := by
  by_cases h : 0 ≤ p ∧ p ≤ 4
  · have hi : inB p 0 4 = true := inB_true.2 h
    obtain ⟨h1, h2⟩ := h
    rcases (show p = 0 ∨ p = 1 ∨ p = 2 ∨ p = 3 ∨ p = 4 by omega) with rfl | rfl | rfl | rfl | rfl
    all_goals
      go_enter Try.func24, Try.ntmps24
      go_wp2_with (go_at_call 57; go_call impl_isMode as e w' ⟨rfl, rfl⟩)
      go_returns
      exact ⟨by simp [modeName], by go_grown⟩
  · have hi : inB p 0 4 = false := inB_false.2 h
    go_enter Try.func24, Try.ntmps24
    go_wp2_with (go_at_call 57; go_call impl_isMode as e w' ⟨rfl, rfl⟩)
    go_returns
    exact ⟨by rw [modeName_out h]; rfl, by go_grown⟩

theorem spec_ModeName (p : Int) (w : World) : Calls Try.prog 23 #[.int .i64 p] w fun e w' => e = .returned (.string (modeName p)) ∧ Below w.heap.size w w' := by
  by_cases h : 0 ≤ p ∧ p ≤ 4
  · have hi : inB p 0 4 = true := inB_true.2 h
    obtain ⟨h1, h2⟩ := h
    rcases (show p = 0 ∨ p = 1 ∨ p = 2 ∨ p = 3 ∨ p = 4 by omega) with rfl | rfl | rfl | rfl | rfl
    all_goals
      go_enter Try.func23, Try.ntmps23
      go_wp2_with (first | (go_at_call 55; go_call spec_l00In as e w' ⟨rfl, rfl⟩) | go_in)
      go_returns
      exact ⟨by simp [modeName], by go_grown⟩
  · have hi : inB p 0 4 = false := inB_false.2 h
    go_enter Try.func23, Try.ntmps23
    go_wp2_with (first | (go_at_call 55; go_call spec_l00In as e w' ⟨rfl, rfl⟩) | go_in)
    go_returns
    exact ⟨by rw [modeName_out h]; rfl, by go_grown⟩

set_option maxHeartbeats 1000000 in
theorem impl_EventName (p : Int) (w : World) : Calls Try.prog 26 #[.int .i64 p] w fun e w' => e = .returned (.string (eventName p)) ∧ Below w.heap.size w w' := by
  by_cases h : 1 ≤ p ∧ p ≤ 9
  · have hi : inB p 1 9 = true := inB_true.2 h
    obtain ⟨h1, h2⟩ := h
    rcases (show p = 1 ∨ p = 2 ∨ p = 3 ∨ p = 4 ∨ p = 5 ∨ p = 6 ∨ p = 7 ∨ p = 8 ∨ p = 9 by omega) with rfl | rfl | rfl | rfl | rfl | rfl | rfl | rfl | rfl
    all_goals
      go_enter Try.func26, Try.ntmps26
      go_wp2_with (go_at_call 61; go_call impl_isEvent as e w' ⟨rfl, rfl⟩)
      go_returns
      exact ⟨by simp [eventName], by go_grown⟩
  · have hi : inB p 1 9 = false := inB_false.2 h
    go_enter Try.func26, Try.ntmps26
    go_wp2_with (go_at_call 61; go_call impl_isEvent as e w' ⟨rfl, rfl⟩)
    go_returns
    exact ⟨by rw [eventName_out h]; rfl, by go_grown⟩

set_option maxHeartbeats 1000000 in
theorem spec_EventName (p : Int) (w : World) : Calls Try.prog 25 #[.int .i64 p] w fun e w' => e = .returned (.string (eventName p)) ∧ Below w.heap.size w w' := by
  by_cases h : 1 ≤ p ∧ p ≤ 9
  · have hi : inB p 1 9 = true := inB_true.2 h
    obtain ⟨h1, h2⟩ := h
    rcases (show p = 1 ∨ p = 2 ∨ p = 3 ∨ p = 4 ∨ p = 5 ∨ p = 6 ∨ p = 7 ∨ p = 8 ∨ p = 9 by omega) with rfl | rfl | rfl | rfl | rfl | rfl | rfl | rfl | rfl
    all_goals
      go_enter Try.func25, Try.ntmps25
      go_wp2_with (first | (go_at_call 59; go_call spec_l13Event as e w' ⟨rfl, rfl⟩) | go_in)
      go_returns
      exact ⟨by simp [eventName], by go_grown⟩
  · have hi : inB p 1 9 = false := inB_false.2 h
    go_enter Try.func25, Try.ntmps25
    go_wp2_with (first | (go_at_call 59; go_call spec_l13Event as e w' ⟨rfl, rfl⟩) | go_in)
    go_returns
    exact ⟨by rw [eventName_out h]; rfl, by go_grown⟩

end Go.Proofs.Ytmacccijecpnpaa
