/-
  Valid motors: the contracts of both sides.
-/
import Derived.Test.YtejhngkbkcalaaaM1
import Derived.Test.YtejhngkbkcalaaaPmp
namespace Go.Proofs.Ytejhngkbkcalaaa
open Go.RowKit
set_option linter.unusedVariables false
set_option linter.unusedSimpArgs false


theorem impl_ValidMotor (p m l : Int) (w : World) : Calls Try.prog 51 #[.agg #[.int .i64 p, .int .i64 m, .int .i64 l]] w fun e w' => e = .returned (.bool (motorOk p m l)) ∧ Below w.heap.size w w' := by
  go_enter Try.func51, Try.ntmps51
  go_wp2_with (go_at_call 25; go_call impl_within as e w' ⟨rfl, rfl⟩)
  all_goals
    go_returns
    exact ⟨by simp [motorOk, *], by go_grown⟩

theorem spec_l10Ok (g o : Nat) (p m l : Int) (w : World) (c0 : w.cell? ⟨g, o, none⟩ = some (.int .i64 p)) (c1 : w.cell? ⟨g, o + 1, none⟩ = some (.int .i64 m)) (c2 : w.cell? ⟨g, o + 2, none⟩ = some (.int .i64 l)) : Calls Try.prog 29 #[.pointer (some ⟨g, o, none⟩)] w fun e w' => e = .returned (.bool (motorOk p m l)) ∧ w = w' := by
  go_enter Try.func29, Try.ntmps29
  go_wp2_with (go_at_call 55; go_call spec_l00In as e w' ⟨rfl, rfl⟩)
  all_goals
    go_returns
    exact ⟨by simp [motorOk, *], rfl⟩

end Go.Proofs.Ytejhngkbkcalaaa
