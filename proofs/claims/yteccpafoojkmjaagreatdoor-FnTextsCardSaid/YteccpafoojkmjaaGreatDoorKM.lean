/-
  Contract: the reference's step of the controller.
-/
import Derived.Test.YteccpafoojkmjaaGreatDoorKC
import Derived.Test.YteccpafoojkmjaaGreatDoorM1
namespace Go.Proofs.YteccpafoojkmjaaGreatDoor
open Go.RowKit
set_option linter.unusedVariables false
set_option linter.unusedSimpArgs false


set_option maxHeartbeats 4000000 in
theorem spec_l13Next (m : Int) (o a b e : Bool) (ev : Int) (w : World) (h1 : 1 ≤ ev) (h2 : ev ≤ 9) : Calls Tryz.prog 42 #[.agg #[.int .i64 m, .bool o, .bool a, .bool b, .bool e], .int .i64 ev] w
    fun e' w' => e' = .returned (.tuple #[(step ⟨m, o, a, b, e⟩ ev).val, .bool (allowed ⟨m, o, a, b, e⟩ ev)]) ∧ Below w.heap.size w w' := by
  rcases (show ev = 1 ∨ ev = 2 ∨ ev = 3 ∨ ev = 4 ∨ ev = 5 ∨ ev = 6 ∨ ev = 7 ∨ ev = 8 ∨ ev = 9 by omega) with rfl | rfl | rfl | rfl | rfl | rfl | rfl | rfl | rfl
  all_goals
    go_enter Tryz.func42, Tryz.ntmps42
    go_wp2
    all_goals
      refine bodyPost_ret (by simp [results, Tryz.results42, go_sem, *]; try rfl) rfl ?_
      refine ⟨?_, by go_grown⟩
      (try simp only [Bool.not_eq_true', Bool.not_eq_false', bne_iff_ne, bne_eq_false_iff_eq, ne_eq, beq_iff_eq, beq_eq_false_iff_ne] at *)
      simp [step, allowed, after, settle, St.val, *]

end Go.Proofs.YteccpafoojkmjaaGreatDoor
