/-
  Contracts of functions on brakes, states and doors.
-/
import Derived.Test.YtaagfkldcdebcaaKA
namespace Go.Proofs.Ytaagfkldcdebcaa
open Go.RowKit


theorem laws_toBrake (d : Int) (f : Int) (w : World) : Calls Try.prog 11 #[.agg #[.int .i64 d, .int .i64 f]] w fun e w' => e = .returned (.agg #[.int .i64 d, .int .i64 f]) ∧ Below w.heap.size w w' := by
  go_enter Try.func11, Try.ntmps11
  go_wp2
  go_returns
  exact ⟨rfl, by go_grown⟩

theorem impl_ValidBrake (d f : Int) (w : World) : Calls Try.prog 40 #[.agg #[.int .i64 d, .int .i64 f]] w fun e w' => e = .returned (.bool (validBrake d f)) ∧ Below w.heap.size w w' := by
  go_enter Try.func40, Try.ntmps40
  go_wp2_with (go_at_call 41; go_call impl_within as e w' ⟨rfl, rfl⟩)
  all_goals
    go_returns
    exact ⟨by simp [validBrake, *], by go_grown⟩

theorem spec_l11Ok (b o : Nat) (d f : Int) (w : World) (h0 : w.cell? ⟨b, o, none⟩ = some (.int .i64 d)) (h1 : w.cell? ⟨b, o + 1, none⟩ = some (.int .i64 f)) : Calls Try.prog 50 #[.pointer (some ⟨b, o, none⟩)] w fun e w' => e = .returned (.bool (validBrake d f)) ∧ w = w' := by
  go_enter Try.func50, Try.ntmps50
  go_wp2_with (go_at_call 74; go_call spec_l00In as e w' ⟨rfl, rfl⟩)
  all_goals
    go_returns
    exact ⟨by simp [validBrake, *], rfl⟩

theorem spec_ValidBrake (d f : Int) (w : World) : Calls Try.prog 29 #[.agg #[.int .i64 d, .int .i64 f]] w fun e w' => e = .returned (.bool (validBrake d f)) ∧ Below w.heap.size w w' := by
  go_enter Try.func29, Try.ntmps29
  go_wp2_with (go_at_call 50; refine (spec_l11Ok _ _ d f _ (by simp) (by simp)).mono ?_; rintro e w' ⟨rfl, rfl⟩)
  all_goals
    go_returns
    exact ⟨rfl, by go_grown⟩

end Go.Proofs.Ytaagfkldcdebcaa
