/-
  Contracts of more functions on brakes, states and doors.
-/
import Derived.Test.YtdhjnpjemaofoaaDoorM1
namespace Go.Proofs.YtdhjnpjemaofoaaDoor
open Go.RowKit
set_option linter.unusedVariables false
set_option linter.unusedSimpArgs false


theorem impl_Door_moves (p k r : Int) (w : World) : Calls Tryd.prog 67 #[.agg #[.int .i64 p, .int .i64 k, .int .i64 r]] w fun e w' => e = .returned (.bool (moves p)) ∧ Below w.heap.size w w' := by
  by_cases h1 : p = 1
  · subst h1
    go_enter Tryd.func67, Tryd.ntmps67
    go_wp2
    go_returns
    exact ⟨by simp [moves], by go_grown⟩
  · have h1' : (p == 1) = false := by simp [h1]
    go_enter Tryd.func67, Tryd.ntmps67
    go_wp2
    all_goals
      go_returns
      exact ⟨by simp [moves, h1]; try rfl, by go_grown⟩

theorem impl_ValidDoor (p k r : Int) (w : World) : Calls Tryd.prog 38 #[.agg #[.int .i64 p, .int .i64 k, .int .i64 r]] w fun e w' => e = .returned (.bool (validDoor p k r)) ∧ Below w.heap.size w w' := by
  cases hp : inB p 0 3 <;> cases hm : moves p
  all_goals
    go_enter Tryd.func38, Tryd.ntmps38
    go_wp2_with (first | (go_at_call 51; go_call impl_within as e w' ⟨rfl, rfl⟩) | (go_at_call 67; go_call impl_Door_moves as e w' ⟨rfl, hb⟩; obtain ⟨hc, hf⟩ := bcell hb; have hz : w.heap.size < w'.heap.size := (by have := hb.size; (try simp at this); omega); have hB : Below w.heap.size w w' := Below.trans (by go_grown) (hb.mono (by go_size))))
    all_goals
      go_returns
      exact ⟨by simp [validDoor, *], by go_grown⟩

theorem validDoor_still {p k r : Int} (h : p = 0 ∨ p = 2) : validDoor p k r = ((k == 0) && (r == 0)) := by
  rcases h with rfl | rfl <;> simp [validDoor, moves, inB]
theorem validDoor_moves {p k r : Int} (h : p = 1 ∨ p = 3) : validDoor p k r = (inB k 0 2 && inB r 0 3) := by
  rcases h with rfl | rfl <;> simp [validDoor, moves, inB]
theorem validDoor_none {p k r : Int} (h : ¬ (0 ≤ p ∧ p ≤ 3)) : validDoor p k r = false := by
  simp [validDoor, inB_false.2 h]
set_option maxHeartbeats 1000000 in
theorem spec_l14Ok (b o : Nat) (p k r : Int) (w : World) (c0 : w.cell? ⟨b, o, none⟩ = some (.int .i64 p)) (c1 : w.cell? ⟨b, o + 1, none⟩ = some (.int .i64 k)) (c2 : w.cell? ⟨b, o + 2, none⟩ = some (.int .i64 r)) :
    Calls Tryd.prog 37 #[.pointer (some ⟨b, o, none⟩)] w fun e w' => e = .returned (.bool (validDoor p k r)) ∧ w = w' := by
  by_cases h : 0 ≤ p ∧ p ≤ 3
  · obtain ⟨h1, h2⟩ := h
    rcases (show p = 0 ∨ p = 2 ∨ p = 1 ∨ p = 3 by omega) with rfl | rfl | rfl | rfl
    · rw [validDoor_still (.inl rfl)]
      go_enter Tryd.func37, Tryd.ntmps37
      go_wp2
      all_goals
        go_returns
        exact ⟨by simp [*], rfl⟩
    · rw [validDoor_still (.inr rfl)]
      go_enter Tryd.func37, Tryd.ntmps37
      go_wp2
      all_goals
        go_returns
        exact ⟨by simp [*], rfl⟩
    · rw [validDoor_moves (.inl rfl)]
      go_enter Tryd.func37, Tryd.ntmps37
      go_wp2_with (go_at_call 66; go_call spec_l00In as e w' ⟨rfl, rfl⟩)
      all_goals
        go_returns
        exact ⟨by simp [*], rfl⟩
    · rw [validDoor_moves (.inr rfl)]
      go_enter Tryd.func37, Tryd.ntmps37
      go_wp2_with (go_at_call 66; go_call spec_l00In as e w' ⟨rfl, rfl⟩)
      all_goals
        go_returns
        exact ⟨by simp [*], rfl⟩
  · rw [validDoor_none h]
    have e0 : (p == 0) = false := beq_eq_false_iff_ne.2 (by omega)
    have e1 : (p == 1) = false := beq_eq_false_iff_ne.2 (by omega)
    have e2 : (p == 2) = false := beq_eq_false_iff_ne.2 (by omega)
    have e3 : (p == 3) = false := beq_eq_false_iff_ne.2 (by omega)
    clear h
    go_enter Tryd.func37, Tryd.ntmps37
    go_wp2
    go_returns
    exact ⟨rfl, rfl⟩

theorem spec_ValidDoor (p k r : Int) (w : World) : Calls Tryd.prog 10 #[.agg #[.int .i64 p, .int .i64 k, .int .i64 r]] w fun e w' => e = .returned (.bool (validDoor p k r)) ∧ Below w.heap.size w w' := by
  go_enter Tryd.func10, Tryd.ntmps10
  go_wp2_with (go_at_call 37; refine (spec_l14Ok _ _ p k r _ (by simp) (by simp) (by simp)).mono ?_; rintro e w' ⟨rfl, rfl⟩)
  go_returns
  exact ⟨rfl, by go_grown⟩

theorem spec_l00Max (a b : Int) (w : World) : Calls Tryd.prog 78 #[.int .i64 a, .int .i64 b] w fun e w' => e = .returned (.int .i64 (max a b)) ∧ w = w' := by
  by_cases h : b < a
  all_goals
    go_enter Tryd.func78, Tryd.ntmps78
    go_wp2
    go_returns
    exact ⟨by congr 1; show Value.int .i64 _ = _; congr 1; omega, rfl⟩

end Go.Proofs.YtdhjnpjemaofoaaDoor
