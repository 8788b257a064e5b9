/-
  Contracts of functions on brakes, states and doors.
-/
import Derived.Test.YtchbhobiefidcaaKA
namespace Go.Proofs.Ytchbhobiefidcaa
open Go.RowKit


theorem laws_toBrake (d : Int) (f : Int) (w : World) : Calls Try.prog 12 #[.agg #[.int .i64 d, .int .i64 f]] w fun e w' => e = .returned (.agg #[.int .i64 d, .int .i64 f]) ∧ Below w.heap.size w w' := by
  go_enter Try.func12, Try.ntmps12
  go_wp2
  go_returns
  exact ⟨rfl, by go_grown⟩

theorem impl_ValidBrake (d f : Int) (w : World) : Calls Try.prog 60 #[.agg #[.int .i64 d, .int .i64 f]] w fun e w' => e = .returned (.bool (validBrake d f)) ∧ Below w.heap.size w w' := by
  go_enter Try.func60, Try.ntmps60
  go_wp2_with (go_at_call 61; go_call impl_within as e w' ⟨rfl, rfl⟩)
  all_goals
    go_returns
    exact ⟨by simp [validBrake, *], by go_grown⟩

theorem spec_l11Ok (b o : Nat) (d f : Int) (w : World) (h0 : w.cell? ⟨b, o, none⟩ = some (.int .i64 d)) (h1 : w.cell? ⟨b, o + 1, none⟩ = some (.int .i64 f)) : Calls Try.prog 68 #[.pointer (some ⟨b, o, none⟩)] w fun e w' => e = .returned (.bool (validBrake d f)) ∧ w = w' := by
  go_enter Try.func68, Try.ntmps68
  go_wp2_with (go_at_call 81; go_call spec_l00In as e w' ⟨rfl, rfl⟩)
  all_goals
    go_returns
    exact ⟨by simp [validBrake, *], rfl⟩

end Go.Proofs.Ytchbhobiefidcaa
