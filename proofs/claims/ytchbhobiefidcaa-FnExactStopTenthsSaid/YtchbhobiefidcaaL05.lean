/-
  The walks of laws: stopping ways and times.
-/
import Derived.Test.YtchbhobiefidcaaKE
import Derived.Test.YtchbhobiefidcaaQt
import Derived.Test.YtchbhobiefidcaaKX
namespace Go.Proofs.Ytchbhobiefidcaa
open Go.RowKit
set_option linter.unusedVariables false
set_option linter.unusedSimpArgs false


set_option maxHeartbeats 4000000 in
theorem law_FnExactStopWay (d f s g : Int) (down : Bool) (w : World) : Calls Try.prog 4 #[.agg #[.int .i64 d, .int .i64 f], .int .i64 s, .int .i64 g, .bool down] w fun e' w' => e' = .returned (.bool true) ∧ Below w.heap.size w w' := by
  have cs := fun W => spec_StopWay d f s g down W
  have ci := fun W => impl_StopWay d f s g down W
  generalize stopWayV d f s g down = R at *
  generalize stopCode d f s g down = C0 at *
  go_enter Try.func4, Try.ntmps4
  go_wp2_with (first | (go_at_call 12; (with_reducible refine (laws_toBrake_x _ _ _).mono ?_); rintro e w' ⟨rfl, rfl⟩) | (go_at_call 14; (with_reducible refine (cs _).mono ?_); rintro e w' ⟨rfl, hb⟩; obtain ⟨hc, hf⟩ := bcell hb; have hz : w.heap.size < w'.heap.size := (by have := hb.size; (try simp at this); omega); have hB : Below w.heap.size w w' := Below.trans (by go_grown) (hb.mono (by go_size))) | (go_at_call 15; (with_reducible refine (ci _).mono ?_); rintro e w' ⟨rfl, hb⟩; obtain ⟨hc, hf⟩ := bcell hb; have hz : w.heap.size < w'.heap.size := (by have := hb.size; (try simp at this); omega); have hB : Below w.heap.size w w' := Below.trans (by go_grown) (hb.mono (by go_size))))
  go_returns
  exact ⟨rfl, by go_grown⟩

set_option maxHeartbeats 4000000 in
theorem law_FnExactStopTenths (d f s g : Int) (down : Bool) (w : World) : Calls Try.prog 3 #[.agg #[.int .i64 d, .int .i64 f], .int .i64 s, .int .i64 g, .bool down] w fun e' w' => e' = .returned (.bool true) ∧ Below w.heap.size w w' := by
  have cs := fun W => spec_StopTenths d f s g down W
  have ci := fun W => impl_StopTenths d f s g down W
  generalize stopTenthsV d f s g down = R at *
  generalize stopCode d f s g down = C0 at *
  go_enter Try.func3, Try.ntmps3
  go_wp2_with (first | (go_at_call 12; (with_reducible refine (laws_toBrake_x _ _ _).mono ?_); rintro e w' ⟨rfl, rfl⟩) | (go_at_call 11; (with_reducible refine (cs _).mono ?_); rintro e w' ⟨rfl, hb⟩; obtain ⟨hc, hf⟩ := bcell hb; have hz : w.heap.size < w'.heap.size := (by have := hb.size; (try simp at this); omega); have hB : Below w.heap.size w w' := Below.trans (by go_grown) (hb.mono (by go_size))) | (go_at_call 13; (with_reducible refine (ci _).mono ?_); rintro e w' ⟨rfl, hb⟩; obtain ⟨hc, hf⟩ := bcell hb; have hz : w.heap.size < w'.heap.size := (by have := hb.size; (try simp at this); omega); have hB : Below w.heap.size w w' := Below.trans (by go_grown) (hb.mono (by go_size))))
  go_returns
  exact ⟨rfl, by go_grown⟩

end Go.Proofs.Ytchbhobiefidcaa
