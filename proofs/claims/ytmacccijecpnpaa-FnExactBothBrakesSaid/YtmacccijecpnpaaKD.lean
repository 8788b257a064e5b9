/-
  Contracts: both brakes together.
-/
import Derived.Test.YtmacccijecpnpaaKC
import Derived.Test.YtmacccijecpnpaaPm
namespace Go.Proofs.Ytmacccijecpnpaa
open Go.RowKit
set_option linter.unusedVariables false
set_option linter.unusedSimpArgs false


set_option maxHeartbeats 1000000 in
theorem impl_BothBrakes (d f d' f' : Int) (w : World) : Calls Try.prog 41 #[.agg #[.int .i64 d, .int .i64 f], .agg #[.int .i64 d', .int .i64 f']] w
    fun e w' => e = .returned (.tuple #[.agg #[.int .i64 (bothDelay d f d' f'), .int .i64 (bothDecel d f d' f')], .int .i64 (bothCode d f d' f')]) ∧ Below w.heap.size w w' := by
  cases h1 : validBrake d f
  · obtain ⟨e1, e2, e3⟩ := both_1 (d := d) (f := f) (d' := d') (f' := f') (by simp [h1])
    rw [e1, e2, e3]
    clear e1 e2 e3
    go_enter Try.func41, Try.ntmps41
    go_wp2_with (go_at_call 17; go_call impl_ValidBrake as e w' ⟨rfl, hb⟩; obtain ⟨hc, hf⟩ := bcell hb; have hz : w.heap.size < w'.heap.size := (by have := hb.size; (try simp at this); omega); have hz1 : w.heap.size + 1 < w'.heap.size := (by have := hb.size; (try simp at this); omega); have hz2 : w.heap.size + 1 + 1 < w'.heap.size := (by have := hb.size; (try simp at this); omega); have hB : Below w.heap.size w w' := Below.trans (by go_grown) (hb.mono (by go_size)))
    refine bodyPost_ret (by simp [results, Try.results41, go_sem, *]; try rfl) rfl ?_
    exact ⟨rfl, by go_grown⟩
  · cases h2 : validBrake d' f'
    · obtain ⟨e1, e2, e3⟩ := both_1 (d := d) (f := f) (d' := d') (f' := f') (by simp [h2])
      rw [e1, e2, e3]
      clear e1 e2 e3
      go_enter Try.func41, Try.ntmps41
      go_wp2_with (go_at_call 17; go_call impl_ValidBrake as e w' ⟨rfl, hb⟩; obtain ⟨hc, hf⟩ := bcell hb; have hz : w.heap.size < w'.heap.size := (by have := hb.size; (try simp at this); omega); have hz1 : w.heap.size + 1 < w'.heap.size := (by have := hb.size; (try simp at this); omega); have hz2 : w.heap.size + 1 + 1 < w'.heap.size := (by have := hb.size; (try simp at this); omega); have hB : Below w.heap.size w w' := Below.trans (by go_grown) (hb.mono (by go_size)))
      refine bodyPost_ret (by simp [results, Try.results41, go_sem, *]; try rfl) rfl ?_
      exact ⟨rfl, by go_grown⟩
    · have hb1 := validBrake_bounds h1
      have hb2 := validBrake_bounds h2
      obtain ⟨_, _, _, _⟩ := hb1
      obtain ⟨_, _, _, _⟩ := hb2
      rcases (show d < d' ∧ max d d' = d' ∨ ¬ d < d' ∧ max d d' = d by omega) with ⟨hm, em⟩ | ⟨hm, em⟩
      all_goals
        cases h3 : validBrake (max d d') (f + f')
        · obtain ⟨e1, e2, e3⟩ := both_5 h1 h2 h3
          rw [e1, e2, e3]
          rw [em] at h3
          clear e1 e2 e3 em
          go_enter Try.func41, Try.ntmps41
          go_wp2_with (go_at_call 17; go_call impl_ValidBrake as e w' ⟨rfl, hb⟩; obtain ⟨hc, hf⟩ := bcell hb; have hz : w.heap.size < w'.heap.size := (by have := hb.size; (try simp at this); omega); have hz1 : w.heap.size + 1 < w'.heap.size := (by have := hb.size; (try simp at this); omega); have hz2 : w.heap.size + 1 + 1 < w'.heap.size := (by have := hb.size; (try simp at this); omega); have hB : Below w.heap.size w w' := Below.trans (by go_grown) (hb.mono (by go_size)))
          refine bodyPost_ret (by simp [results, Try.results41, go_sem, *]; try rfl) rfl ?_
          exact ⟨rfl, by go_grown⟩
        · obtain ⟨e1, e2, e3⟩ := both_0 h1 h2 h3
          rw [e1, e2, e3, em]
          rw [em] at h3
          clear e1 e2 e3 em
          go_enter Try.func41, Try.ntmps41
          go_wp2_with (go_at_call 17; go_call impl_ValidBrake as e w' ⟨rfl, hb⟩; obtain ⟨hc, hf⟩ := bcell hb; have hz : w.heap.size < w'.heap.size := (by have := hb.size; (try simp at this); omega); have hz1 : w.heap.size + 1 < w'.heap.size := (by have := hb.size; (try simp at this); omega); have hz2 : w.heap.size + 1 + 1 < w'.heap.size := (by have := hb.size; (try simp at this); omega); have hB : Below w.heap.size w w' := Below.trans (by go_grown) (hb.mono (by go_size)))
          refine bodyPost_ret (by simp [results, Try.results41, go_sem, *]; try rfl) rfl ?_
          exact ⟨rfl, by go_grown⟩

set_option maxHeartbeats 2000000 in
theorem spec_BothBrakes (d f d' f' : Int) (w : World) : Calls Try.prog 49 #[.agg #[.int .i64 d, .int .i64 f], .agg #[.int .i64 d', .int .i64 f']] w
    fun e w' => e = .returned (.tuple #[.agg #[.int .i64 (bothDelay d f d' f'), .int .i64 (bothDecel d f d' f')], .int .i64 (bothCode d f d' f')]) ∧ Below w.heap.size w w' := by
  cases h1 : validBrake d f
  · obtain ⟨e1, e2, e3⟩ := both_1 (d := d) (f := f) (d' := d') (f' := f') (by simp [h1])
    rw [e1, e2, e3]
    clear e1 e2 e3
    go_enter Try.func49, Try.ntmps49
    go_wp2_with fail
    go_call (spec_l11Ok w.heap.size 0 d f) as e w' ⟨rfl, rfl⟩
    go_wp2
    refine bodyPost_ret (by simp [results, Try.results49, go_sem, *]; try rfl) rfl ?_
    exact ⟨rfl, by go_grown⟩
  · cases h2 : validBrake d' f'
    · obtain ⟨e1, e2, e3⟩ := both_1 (d := d) (f := f) (d' := d') (f' := f') (by simp [h2])
      rw [e1, e2, e3]
      clear e1 e2 e3
      go_enter Try.func49, Try.ntmps49
      go_wp2_with fail
      go_call (spec_l11Ok w.heap.size 0 d f) as e w' ⟨rfl, rfl⟩
      go_wp2_with fail
      go_call (spec_l11Ok (w.heap.size + 1) 0 d' f') as e w' ⟨rfl, rfl⟩
      go_wp2
      refine bodyPost_ret (by simp [results, Try.results49, go_sem, *]; try rfl) rfl ?_
      exact ⟨rfl, by go_grown⟩
    · obtain ⟨_, _, _, _⟩ := validBrake_bounds h1
      obtain ⟨_, _, _, _⟩ := validBrake_bounds h2
      have hw : IntKind.i64.wrap (f + f') = f + f' := IntWalk.i64_in _ (by omega)
      obtain ⟨M, hM⟩ : ∃ M, M = max d d' := ⟨_, rfl⟩
      cases h3 : validBrake (max d d') (f + f')
      · obtain ⟨e1, e2, e3⟩ := both_5 h1 h2 h3
        rw [e1, e2, e3]
        clear e1 e2 e3
        go_enter Try.func49, Try.ntmps49
        go_wp2_with fail
        go_call (spec_l11Ok w.heap.size 0 d f) as e w' ⟨rfl, rfl⟩
        go_wp2_with fail
        go_call (spec_l11Ok (w.heap.size + 1) 0 d' f') as e w' ⟨rfl, rfl⟩
        go_wp2_with fail
        go_region_held3 (fun W => W.cell? ⟨w.heap.size, 0, none⟩ = some (.int .i64 d) ∧ W.cell? ⟨w.heap.size, 1, none⟩ = some (.int .i64 f) ∧ W.cell? ⟨w.heap.size + 1, 0, none⟩ = some (.int .i64 d') ∧ W.cell? ⟨w.heap.size + 1, 1, none⟩ = some (.int .i64 f') ∧ w.heap.size < W.heap.size ∧ w.heap.size + 1 < W.heap.size ∧ Below w.heap.size w W) (first | (refine ⟨?_, ?_, ?_, ?_, ?_, ?_, ?_⟩ <;> (repeat' (first | (with_reducible assumption) | (with_reducible refine cell_far ?_ ?_) | (with_reducible refine cell_old ?_ (by first | (with_reducible assumption) | omega | (simp; done) | (simp; omega))) | (with_reducible refine cell_drew ?_) | omega | (simp only [World.size_alloc, World.size_setCell, World.size_drew]; omega) | (with_reducible refine below_set ?_ ?_) | (with_reducible refine Below.alloc ?_ ?_ _) | (with_reducible refine Below.drew ?_) | (with_reducible exact Below.refl _ _) | omega | (go_cell; done) | (simp; done) | (simp; omega))); done) | ((repeat' (first | (with_reducible assumption) | (with_reducible refine cell_far ?_ ?_) | (with_reducible refine cell_old ?_ (by first | (with_reducible assumption) | omega | (simp; done) | (simp; omega))) | (with_reducible refine cell_drew ?_) | omega | (simp only [World.size_alloc, World.size_setCell, World.size_drew]; omega) | (with_reducible refine below_set ?_ ?_) | (with_reducible refine Below.alloc ?_ ?_ _) | (with_reducible refine Below.drew ?_) | (with_reducible exact Below.refl _ _) | omega | (go_cell; done) | (simp; done) | (simp; omega))); done)) (first | (go_at_call 84; refine (spec_l00Max _ _ _).mono ?_; rintro e' w1 ⟨rfl, rfl⟩))
        all_goals
          go_wp2_with fail
          go_call (spec_l11Ok (w.heap.size + 1 + 1 + 1) 0 (max d d') (f + f')) as e w' ⟨rfl, rfl⟩
          go_wp2
          refine bodyPost_ret (by simp [results, Try.results49, go_sem, *]; try rfl) rfl ?_
          exact ⟨rfl, by go_grown⟩
      · obtain ⟨e1, e2, e3⟩ := both_0 h1 h2 h3
        rw [e1, e2, e3]
        clear e1 e2 e3
        go_enter Try.func49, Try.ntmps49
        go_wp2_with fail
        go_call (spec_l11Ok w.heap.size 0 d f) as e w' ⟨rfl, rfl⟩
        go_wp2_with fail
        go_call (spec_l11Ok (w.heap.size + 1) 0 d' f') as e w' ⟨rfl, rfl⟩
        go_wp2_with fail
        go_region_held3 (fun W => W.cell? ⟨w.heap.size, 0, none⟩ = some (.int .i64 d) ∧ W.cell? ⟨w.heap.size, 1, none⟩ = some (.int .i64 f) ∧ W.cell? ⟨w.heap.size + 1, 0, none⟩ = some (.int .i64 d') ∧ W.cell? ⟨w.heap.size + 1, 1, none⟩ = some (.int .i64 f') ∧ w.heap.size < W.heap.size ∧ w.heap.size + 1 < W.heap.size ∧ Below w.heap.size w W) (first | (refine ⟨?_, ?_, ?_, ?_, ?_, ?_, ?_⟩ <;> (repeat' (first | (with_reducible assumption) | (with_reducible refine cell_far ?_ ?_) | (with_reducible refine cell_old ?_ (by first | (with_reducible assumption) | omega | (simp; done) | (simp; omega))) | (with_reducible refine cell_drew ?_) | omega | (simp only [World.size_alloc, World.size_setCell, World.size_drew]; omega) | (with_reducible refine below_set ?_ ?_) | (with_reducible refine Below.alloc ?_ ?_ _) | (with_reducible refine Below.drew ?_) | (with_reducible exact Below.refl _ _) | omega | (go_cell; done) | (simp; done) | (simp; omega))); done) | ((repeat' (first | (with_reducible assumption) | (with_reducible refine cell_far ?_ ?_) | (with_reducible refine cell_old ?_ (by first | (with_reducible assumption) | omega | (simp; done) | (simp; omega))) | (with_reducible refine cell_drew ?_) | omega | (simp only [World.size_alloc, World.size_setCell, World.size_drew]; omega) | (with_reducible refine below_set ?_ ?_) | (with_reducible refine Below.alloc ?_ ?_ _) | (with_reducible refine Below.drew ?_) | (with_reducible exact Below.refl _ _) | omega | (go_cell; done) | (simp; done) | (simp; omega))); done)) (first | (go_at_call 84; refine (spec_l00Max _ _ _).mono ?_; rintro e' w1 ⟨rfl, rfl⟩))
        all_goals
          go_wp2_with fail
          go_call (spec_l11Ok (w.heap.size + 1 + 1 + 1) 0 (max d d') (f + f')) as e w' ⟨rfl, rfl⟩
          go_wp2
          refine bodyPost_ret (by simp [results, Try.results49, go_sem, *]; try rfl) rfl ?_
          exact ⟨rfl, by go_grown⟩

end Go.Proofs.Ytmacccijecpnpaa
