/-
  Contracts of the controller's step.
-/
import Derived.Test.YtccejaneammplaaKC
import Derived.Test.YtccejaneammplaaPc
namespace Go.Proofs.Ytccejaneammplaa
open Go.RowKit
set_option linter.unusedVariables false
set_option linter.unusedSimpArgs false


set_option maxHeartbeats 2000000 in
theorem impl_isAllowed (m : Int) (o a b e : Bool) (ev : Int) (w : World) : Calls Try.prog 24 #[.agg #[.int .i64 m, .bool o, .bool a, .bool b, .bool e], .int .i64 ev] w
    fun e' w' => e' = .returned (.bool (allowed ⟨m, o, a, b, e⟩ ev)) ∧ Below w.heap.size w w' := by
  rcases (show ev = 1 ∨ ev = 2 ∨ ev = 3 ∨ ev = 4 ∨ ev = 5 ∨ ev = 6 ∨ ev = 7 ∨ ev = 8 ∨ (ev ≠ 1 ∧ ev ≠ 2 ∧ ev ≠ 3 ∧ ev ≠ 4 ∧ ev ≠ 5 ∧ ev ≠ 6 ∧ ev ≠ 7 ∧ ev ≠ 8) by omega) with rfl | rfl | rfl | rfl | rfl | rfl | rfl | rfl | ⟨n1, n2, n3, n4, n5, n6, n7, n8⟩
  iterate 8
    · go_enter Try.func24, Try.ntmps24
      go_wp2
      all_goals
        go_returns
        exact ⟨by simp [allowed, *], by go_grown⟩
  · have k1 : (ev == 1) = false := beq_eq_false_iff_ne.2 n1
    have k2 : (ev == 2) = false := beq_eq_false_iff_ne.2 n2
    have k3 : (ev == 3) = false := beq_eq_false_iff_ne.2 n3
    have k4 : (ev == 4) = false := beq_eq_false_iff_ne.2 n4
    have k5 : (ev == 5) = false := beq_eq_false_iff_ne.2 n5
    have k6 : (ev == 6) = false := beq_eq_false_iff_ne.2 n6
    have k7 : (ev == 7) = false := beq_eq_false_iff_ne.2 n7
    have k8 : (ev == 8) = false := beq_eq_false_iff_ne.2 n8
    go_enter Try.func24, Try.ntmps24
    go_wp2
    all_goals
      go_returns
      exact ⟨by simp [allowed, *], by go_grown⟩

set_option maxHeartbeats 4000000 in
theorem impl_after (m : Int) (o a b e : Bool) (ev : Int) (w : World) : Calls Try.prog 25 #[.agg #[.int .i64 m, .bool o, .bool a, .bool b, .bool e], .int .i64 ev] w
    fun e' w' => e' = .returned (after ⟨m, o, a, b, e⟩ ev).val ∧ Below w.heap.size w w' := by
  rcases (show ev = 1 ∨ ev = 2 ∨ ev = 3 ∨ ev = 4 ∨ ev = 5 ∨ ev = 6 ∨ ev = 7 ∨ ev = 8 ∨ (ev ≠ 1 ∧ ev ≠ 2 ∧ ev ≠ 3 ∧ ev ≠ 4 ∧ ev ≠ 5 ∧ ev ≠ 6 ∧ ev ≠ 7 ∧ ev ≠ 8) by omega) with rfl | rfl | rfl | rfl | rfl | rfl | rfl | rfl | ⟨n1, n2, n3, n4, n5, n6, n7, n8⟩
  iterate 8
    · go_enter Try.func25, Try.ntmps25
      go_wp2
      all_goals
        go_returns
        exact ⟨by simp [after, settle, St.val, *], by go_grown⟩
  · have k1 : (ev == 1) = false := beq_eq_false_iff_ne.2 n1
    have k2 : (ev == 2) = false := beq_eq_false_iff_ne.2 n2
    have k3 : (ev == 3) = false := beq_eq_false_iff_ne.2 n3
    have k4 : (ev == 4) = false := beq_eq_false_iff_ne.2 n4
    have k5 : (ev == 5) = false := beq_eq_false_iff_ne.2 n5
    have k6 : (ev == 6) = false := beq_eq_false_iff_ne.2 n6
    have k7 : (ev == 7) = false := beq_eq_false_iff_ne.2 n7
    have k8 : (ev == 8) = false := beq_eq_false_iff_ne.2 n8
    go_enter Try.func25, Try.ntmps25
    go_wp2
    all_goals
      go_returns
      exact ⟨by simp [after, settle, St.val, *], by go_grown⟩

end Go.Proofs.Ytccejaneammplaa
