/-
  Contracts: the least number of a range, safe speeds, least forces.
-/
import Derived.Test.YtcnnhklbilcbaaaKE
import Derived.Test.YtcnnhklbilcbaaaM1
import Derived.Lib.Hide
namespace Go.Proofs.Ytcnnhklbilcbaaa
open Go.RowKit
set_option linter.unusedVariables false
set_option linter.unusedSimpArgs false


theorem impl_stopsWithin (d f s way g : Int) (down : Bool) (w : World) (h1 : 1 ≤ f) (h2 : f ≤ 10000) (h3 : 0 ≤ g) (h4 : g ≤ 900) (h5 : 0 ≤ d) (h6 : d ≤ 100) (h7 : 0 ≤ s) (h8 : s ≤ 15000) :
    Calls Try.prog 50 #[.agg #[.int .i64 d, .int .i64 f], .int .i64 s, .int .i64 way, .int .i64 g, .bool down] w
      fun e w' => e = .returned (.bool (withinV d f s way g down)) ∧ Below w.heap.size w w' := by
  have cw := fun W => impl_stopWay d f s g down W h1 h2 h3 h4 h5 h6 h7 h8
  unfold withinV
  generalize forceV f g down = F at *
  by_cases hp : F ≤ 0
  · have e1 : decide (0 < F) = false := decide_eq_false (by omega)
    rw [e1] at cw ⊢
    generalize (if F ≤ 0 then (0 : Int) else wayV d F s) = V at *
    generalize wayV d F s = V' at *
    go_enter Try.func50, Try.ntmps50
    go_wp2_with (go_at_call 31; (with_reducible refine (cw _).mono ?_); rintro e w' ⟨rfl, hb⟩; obtain ⟨hc, hf⟩ := bcell hb; have hz : w.heap.size < w'.heap.size := (by have := hb.size; (try simp at this); omega); have hB : Below w.heap.size w w' := Below.trans (by go_grown) (hb.mono (by go_size)))
    go_returns
    exact ⟨rfl, by go_grown⟩
  · have e1 : decide (0 < F) = true := decide_eq_true (by omega)
    rw [e1, if_neg hp] at cw
    rw [e1]
    generalize wayV d F s = V at *
    go_enter Try.func50, Try.ntmps50
    go_wp2_with (go_at_call 31; (with_reducible refine (cw _).mono ?_); rintro e w' ⟨rfl, hb⟩; obtain ⟨hc, hf⟩ := bcell hb; have hz : w.heap.size < w'.heap.size := (by have := hb.size; (try simp at this); omega); have hB : Below w.heap.size w w' := Below.trans (by go_grown) (hb.mono (by go_size)))
    go_returns
    exact ⟨rfl, by go_grown⟩

end Go.Proofs.Ytcnnhklbilcbaaa
