/-
  Contracts of functions on brakes, states and doors.
-/
import Derived.Test.YtpjmodpneknnhaaDoorKA
namespace Go.Proofs.YtpjmodpneknnhaaDoor
open Go.RowKit


theorem laws_toBrake (d : Int) (f : Int) (w : World) : Calls Tryd.prog 13 #[.agg #[.int .i64 d, .int .i64 f]] w fun e w' => e = .returned (.agg #[.int .i64 d, .int .i64 f]) ∧ Below w.heap.size w w' := by
  go_enter Tryd.func13, Tryd.ntmps13
  go_wp2
  go_returns
  exact ⟨rfl, by go_grown⟩

theorem laws_toDoor (p : Int) (k : Int) (r : Int) (w : World) : Calls Tryd.prog 16 #[.agg #[.int .i64 p, .int .i64 k, .int .i64 r]] w fun e w' => e = .returned (.agg #[.int .i64 p, .int .i64 k, .int .i64 r]) ∧ Below w.heap.size w w' := by
  go_enter Tryd.func16, Tryd.ntmps16
  go_wp2
  go_returns
  exact ⟨rfl, by go_grown⟩

theorem laws_eqBrake_same (d : Int) (f : Int) (w : World) : Calls Tryd.prog 33 #[.agg #[.int .i64 d, .int .i64 f], .agg #[.int .i64 d, .int .i64 f]] w fun e w' => e = .returned (.bool true) ∧ Below w.heap.size w w' := by
  go_enter Tryd.func33, Tryd.ntmps33
  go_wp2
  go_returns
  exact ⟨rfl, by go_grown⟩

theorem laws_eqDoor_same (p : Int) (k : Int) (r : Int) (w : World) : Calls Tryd.prog 30 #[.agg #[.int .i64 p, .int .i64 k, .int .i64 r], .agg #[.int .i64 p, .int .i64 k, .int .i64 r]] w fun e w' => e = .returned (.bool true) ∧ Below w.heap.size w w' := by
  go_enter Tryd.func30, Tryd.ntmps30
  go_wp2
  go_returns
  exact ⟨rfl, by go_grown⟩

theorem impl_ValidBrake (d f : Int) (w : World) : Calls Tryd.prog 42 #[.agg #[.int .i64 d, .int .i64 f]] w fun e w' => e = .returned (.bool (validBrake d f)) ∧ Below w.heap.size w w' := by
  go_enter Tryd.func42, Tryd.ntmps42
  go_wp2_with (go_at_call 50; go_call impl_within as e w' ⟨rfl, rfl⟩)
  all_goals
    go_returns
    exact ⟨by simp [validBrake, *], by go_grown⟩

theorem spec_l11Ok (b o : Nat) (d f : Int) (w : World) (h0 : w.cell? ⟨b, o, none⟩ = some (.int .i64 d)) (h1 : w.cell? ⟨b, o + 1, none⟩ = some (.int .i64 f)) : Calls Tryd.prog 40 #[.pointer (some ⟨b, o, none⟩)] w fun e w' => e = .returned (.bool (validBrake d f)) ∧ w = w' := by
  go_enter Tryd.func40, Tryd.ntmps40
  go_wp2_with (go_at_call 67; go_call spec_l00In as e w' ⟨rfl, rfl⟩)
  all_goals
    go_returns
    exact ⟨by simp [validBrake, *], rfl⟩

end Go.Proofs.YtpjmodpneknnhaaDoor
