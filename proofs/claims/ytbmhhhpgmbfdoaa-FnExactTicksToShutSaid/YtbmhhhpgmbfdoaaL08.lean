/-
  The walks of laws: after how many ticks a door is shut.
-/
import Derived.Test.YtbmhhhpgmbfdoaaKW
import Derived.Test.YtbmhhhpgmbfdoaaQt
import Derived.Test.YtbmhhhpgmbfdoaaKX
namespace Go.Proofs.Ytbmhhhpgmbfdoaa
open Go.RowKit
set_option linter.unusedVariables false
set_option linter.unusedSimpArgs false


set_option maxHeartbeats 4000000 in
theorem law_FnExactTicksToShut (p k r : Int) (w : World) : Calls Try.prog 12 #[.agg #[.int .i64 p, .int .i64 k, .int .i64 r]] w fun e' w' => e' = .returned (.bool true) ∧ Below w.heap.size w w' := by
  have cs := fun W => spec_TicksToShut p k r W
  have ci := fun W => impl_TicksToShut p k r W
  generalize shutV ⟨p, k, r⟩ = R at *
  generalize shutCode ⟨p, k, r⟩ = C0 at *
  go_enter Try.func12, Try.ntmps12
  go_wp2_with (first | (go_at_call 49; (with_reducible refine (laws_toDoor_x _ _ _ _).mono ?_); rintro e w' ⟨rfl, rfl⟩) | (go_at_call 48; (with_reducible refine (cs _).mono ?_); rintro e w' ⟨rfl, hb⟩; obtain ⟨hc, hf⟩ := bcell hb; have hz : w.heap.size < w'.heap.size := (by have := hb.size; (try simp at this); omega); have hB : Below w.heap.size w w' := Below.trans (by go_grown) (hb.mono (by go_size))) | (go_at_call 50; (with_reducible refine (ci _).mono ?_); rintro e w' ⟨rfl, hb⟩; obtain ⟨hc, hf⟩ := bcell hb; have hz : w.heap.size < w'.heap.size := (by have := hb.size; (try simp at this); omega); have hB : Below w.heap.size w w' := Below.trans (by go_grown) (hb.mono (by go_size))))
  go_returns
  exact ⟨rfl, by go_grown⟩

end Go.Proofs.Ytbmhhhpgmbfdoaa
