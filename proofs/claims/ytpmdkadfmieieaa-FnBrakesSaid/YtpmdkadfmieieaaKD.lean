/-
  Contracts: both brakes together.
-/
import Derived.Test.YtpmdkadfmieieaaKC
import Derived.Test.YtpmdkadfmieieaaPm
namespace Go.Proofs.Ytpmdkadfmieieaa
open Go.RowKit
set_option linter.unusedVariables false
set_option linter.unusedSimpArgs false


set_option maxHeartbeats 1000000 in
theorem impl_BothBrakes (d f d' f' : Int) (w : World) : Calls Try.prog 30 #[.agg #[.int .i64 d, .int .i64 f], .agg #[.int .i64 d', .int .i64 f']] w
    fun e w' => e = .returned (.tuple #[.agg #[.int .i64 (bothDelay d f d' f'), .int .i64 (bothDecel d f d' f')], .int .i64 (bothCode d f d' f')]) ∧ Below w.heap.size w w' := by
  cases h1 : validBrake d f
  · obtain ⟨e1, e2, e3⟩ := both_1 (d := d) (f := f) (d' := d') (f' := f') (by simp [h1])
    rw [e1, e2, e3]
    clear e1 e2 e3
    go_enter Try.func30, Try.ntmps30
    go_wp2_with (go_at_call 62; go_call impl_ValidBrake as e w' ⟨rfl, hb⟩; obtain ⟨hc, hf⟩ := bcell hb; have hz : w.heap.size < w'.heap.size := (by have := hb.size; (try simp at this); omega); have hz1 : w.heap.size + 1 < w'.heap.size := (by have := hb.size; (try simp at this); omega); have hz2 : w.heap.size + 1 + 1 < w'.heap.size := (by have := hb.size; (try simp at this); omega); have hB : Below w.heap.size w w' := Below.trans (by go_grown) (hb.mono (by go_size)))
    refine bodyPost_ret (by simp [results, Try.results30, go_sem, *]; try rfl) rfl ?_
    exact ⟨rfl, by go_grown⟩
  · cases h2 : validBrake d' f'
    · obtain ⟨e1, e2, e3⟩ := both_1 (d := d) (f := f) (d' := d') (f' := f') (by simp [h2])
      rw [e1, e2, e3]
      clear e1 e2 e3
      go_enter Try.func30, Try.ntmps30
      go_wp2_with (go_at_call 62; go_call impl_ValidBrake as e w' ⟨rfl, hb⟩; obtain ⟨hc, hf⟩ := bcell hb; have hz : w.heap.size < w'.heap.size := (by have := hb.size; (try simp at this); omega); have hz1 : w.heap.size + 1 < w'.heap.size := (by have := hb.size; (try simp at this); omega); have hz2 : w.heap.size + 1 + 1 < w'.heap.size := (by have := hb.size; (try simp at this); omega); have hB : Below w.heap.size w w' := Below.trans (by go_grown) (hb.mono (by go_size)))
      refine bodyPost_ret (by simp [results, Try.results30, go_sem, *]; try rfl) rfl ?_
      exact ⟨rfl, by go_grown⟩
    · have hb1 := validBrake_bounds h1
      have hb2 := validBrake_bounds h2
      obtain ⟨_, _, _, _⟩ := hb1
      obtain ⟨_, _, _, _⟩ := hb2
      rcases (show d < d' ∧ max d d' = d' ∨ ¬ d < d' ∧ max d d' = d by omega) with ⟨hm, em⟩ | ⟨hm, em⟩
      all_goals
        cases h3 : validBrake (max d d') (f + f')
        · obtain ⟨e1, e2, e3⟩ := both_5 h1 h2 h3
          rw [e1, e2, e3]
          rw [em] at h3
          clear e1 e2 e3 em
          go_enter Try.func30, Try.ntmps30
          go_wp2_with (go_at_call 62; go_call impl_ValidBrake as e w' ⟨rfl, hb⟩; obtain ⟨hc, hf⟩ := bcell hb; have hz : w.heap.size < w'.heap.size := (by have := hb.size; (try simp at this); omega); have hz1 : w.heap.size + 1 < w'.heap.size := (by have := hb.size; (try simp at this); omega); have hz2 : w.heap.size + 1 + 1 < w'.heap.size := (by have := hb.size; (try simp at this); omega); have hB : Below w.heap.size w w' := Below.trans (by go_grown) (hb.mono (by go_size)))
          refine bodyPost_ret (by simp [results, Try.results30, go_sem, *]; try rfl) rfl ?_
          exact ⟨rfl, by go_grown⟩
        · obtain ⟨e1, e2, e3⟩ := both_0 h1 h2 h3
          rw [e1, e2, e3, em]
          rw [em] at h3
          clear e1 e2 e3 em
          go_enter Try.func30, Try.ntmps30
          go_wp2_with (go_at_call 62; go_call impl_ValidBrake as e w' ⟨rfl, hb⟩; obtain ⟨hc, hf⟩ := bcell hb; have hz : w.heap.size < w'.heap.size := (by have := hb.size; (try simp at this); omega); have hz1 : w.heap.size + 1 < w'.heap.size := (by have := hb.size; (try simp at this); omega); have hz2 : w.heap.size + 1 + 1 < w'.heap.size := (by have := hb.size; (try simp at this); omega); have hB : Below w.heap.size w w' := Below.trans (by go_grown) (hb.mono (by go_size)))
          refine bodyPost_ret (by simp [results, Try.results30, go_sem, *]; try rfl) rfl ?_
          exact ⟨rfl, by go_grown⟩

end Go.Proofs.Ytpmdkadfmieieaa
