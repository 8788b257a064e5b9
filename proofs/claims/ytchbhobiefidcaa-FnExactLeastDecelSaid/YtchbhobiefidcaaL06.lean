/-
  The walks of laws: safe speeds, least forces.
-/
import Derived.Test.YtchbhobiefidcaaKL
import Derived.Test.YtchbhobiefidcaaQt
import Derived.Test.YtchbhobiefidcaaKX
namespace Go.Proofs.Ytchbhobiefidcaa
open Go.RowKit
set_option linter.unusedVariables false
set_option linter.unusedSimpArgs false


set_option maxHeartbeats 4000000 in
theorem law_FnExactSafeSpeed (d f y g : Int) (down : Bool) (w : World) : Calls Try.prog 6 #[.agg #[.int .i64 d, .int .i64 f], .int .i64 y, .int .i64 g, .bool down] w fun e' w' => e' = .returned (.bool true) ∧ Below w.heap.size w w' := by
  have cs := fun W => spec_SafeSpeed d f y g down W
  have ci := fun W => impl_SafeSpeed d f y g down W
  generalize safeV d f y g down = R at *
  generalize safeCode d f y g down = C0 at *
  go_enter Try.func6, Try.ntmps6
  go_wp2_with (first | (go_at_call 12; (with_reducible refine (laws_toBrake_x _ _ _).mono ?_); rintro e w' ⟨rfl, rfl⟩) | (go_at_call 18; (with_reducible refine (cs _).mono ?_); rintro e w' ⟨rfl, hb⟩; obtain ⟨hc, hf⟩ := bcell hb; have hz : w.heap.size < w'.heap.size := (by have := hb.size; (try simp at this); omega); have hB : Below w.heap.size w w' := Below.trans (by go_grown) (hb.mono (by go_size))) | (go_at_call 19; (with_reducible refine (ci _).mono ?_); rintro e w' ⟨rfl, hb⟩; obtain ⟨hc, hf⟩ := bcell hb; have hz : w.heap.size < w'.heap.size := (by have := hb.size; (try simp at this); omega); have hB : Below w.heap.size w w' := Below.trans (by go_grown) (hb.mono (by go_size))))
  go_returns
  exact ⟨rfl, by go_grown⟩

set_option maxHeartbeats 4000000 in
theorem law_FnExactLeastDecel (d f s y g : Int) (down : Bool) (w : World) : Calls Try.prog 5 #[.agg #[.int .i64 d, .int .i64 f], .int .i64 s, .int .i64 y, .int .i64 g, .bool down] w fun e' w' => e' = .returned (.bool true) ∧ Below w.heap.size w w' := by
  have cs := fun W => spec_LeastDecel d f s y g down W
  have ci := fun W => impl_LeastDecel d f s y g down W
  generalize leastV d f s y g down = R at *
  generalize leastCode d f s y g down = C0 at *
  go_enter Try.func5, Try.ntmps5
  go_wp2_with (first | (go_at_call 12; (with_reducible refine (laws_toBrake_x _ _ _).mono ?_); rintro e w' ⟨rfl, rfl⟩) | (go_at_call 16; (with_reducible refine (cs _).mono ?_); rintro e w' ⟨rfl, hb⟩; obtain ⟨hc, hf⟩ := bcell hb; have hz : w.heap.size < w'.heap.size := (by have := hb.size; (try simp at this); omega); have hB : Below w.heap.size w w' := Below.trans (by go_grown) (hb.mono (by go_size))) | (go_at_call 17; (with_reducible refine (ci _).mono ?_); rintro e w' ⟨rfl, hb⟩; obtain ⟨hc, hf⟩ := bcell hb; have hz : w.heap.size < w'.heap.size := (by have := hb.size; (try simp at this); omega); have hB : Below w.heap.size w w' := Below.trans (by go_grown) (hb.mono (by go_size))))
  go_returns
  exact ⟨rfl, by go_grown⟩

end Go.Proofs.Ytchbhobiefidcaa
