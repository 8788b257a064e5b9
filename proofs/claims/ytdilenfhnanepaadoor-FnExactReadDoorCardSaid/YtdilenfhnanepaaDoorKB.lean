/-
  Contracts of functions on brakes, states and doors.
-/
import Derived.Test.YtdilenfhnanepaaDoorKA
namespace Go.Proofs.YtdilenfhnanepaaDoor
open Go.RowKit


theorem laws_eqBrake_same (d : Int) (f : Int) (w : World) : Calls Tryd.prog 12 #[.agg #[.int .i64 d, .int .i64 f], .agg #[.int .i64 d, .int .i64 f]] w fun e w' => e = .returned (.bool true) ∧ Below w.heap.size w w' := by
  go_enter Tryd.func12, Tryd.ntmps12
  go_wp2
  go_returns
  exact ⟨rfl, by go_grown⟩

theorem laws_eqDoor_same (p : Int) (k : Int) (r : Int) (w : World) : Calls Tryd.prog 9 #[.agg #[.int .i64 p, .int .i64 k, .int .i64 r], .agg #[.int .i64 p, .int .i64 k, .int .i64 r]] w fun e w' => e = .returned (.bool true) ∧ Below w.heap.size w w' := by
  go_enter Tryd.func9, Tryd.ntmps9
  go_wp2
  go_returns
  exact ⟨rfl, by go_grown⟩

theorem impl_ValidBrake (d f : Int) (w : World) : Calls Tryd.prog 26 #[.agg #[.int .i64 d, .int .i64 f]] w fun e w' => e = .returned (.bool (validBrake d f)) ∧ Below w.heap.size w w' := by
  go_enter Tryd.func26, Tryd.ntmps26
  go_wp2_with (go_at_call 37; go_call impl_within as e w' ⟨rfl, rfl⟩)
  all_goals
    go_returns
    exact ⟨by simp [validBrake, *], by go_grown⟩

theorem spec_l11Ok (b o : Nat) (d f : Int) (w : World) (h0 : w.cell? ⟨b, o, none⟩ = some (.int .i64 d)) (h1 : w.cell? ⟨b, o + 1, none⟩ = some (.int .i64 f)) : Calls Tryd.prog 23 #[.pointer (some ⟨b, o, none⟩)] w fun e w' => e = .returned (.bool (validBrake d f)) ∧ w = w' := by
  go_enter Tryd.func23, Tryd.ntmps23
  go_wp2_with (go_at_call 41; go_call spec_l00In as e w' ⟨rfl, rfl⟩)
  all_goals
    go_returns
    exact ⟨by simp [validBrake, *], rfl⟩

end Go.Proofs.YtdilenfhnanepaaDoor
