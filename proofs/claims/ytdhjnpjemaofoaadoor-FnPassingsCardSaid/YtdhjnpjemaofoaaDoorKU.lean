/-
  Contracts of the steps of a door.
-/
import Derived.Test.YtdhjnpjemaofoaaDoorKC
import Derived.Test.YtdhjnpjemaofoaaDoorM1
namespace Go.Proofs.YtdhjnpjemaofoaaDoor
open Go.RowKit
set_option linter.unusedVariables false
set_option linter.unusedSimpArgs false


set_option maxHeartbeats 1000000 in
theorem impl_Door_tick (p k r : Int) (w : World) (h : Dr.fits ⟨p, k, r⟩) : Calls Tryd.prog 43 #[.agg #[.int .i64 p, .int .i64 k, .int .i64 r]] w fun e' w' => e' = .returned (tickD ⟨p, k, r⟩).val ∧ Below w.heap.size w w' := by
  obtain ⟨h0, h1, h2, h3, h4, h5⟩ := h
  simp only at h0 h1 h2 h3 h4 h5
  rcases (show p = 0 ∨ p = 2 ∨ p = 1 ∨ p = 3 by omega) with rfl | rfl | rfl | rfl
  iterate 2
    · go_enter Tryd.func43, Tryd.ntmps43
      go_wp2_with go_in
      go_returns
      exact ⟨rfl, by go_grown⟩
  all_goals
    by_cases hk : k + 1 < 3
    · go_enter Tryd.func43, Tryd.ntmps43
      go_wp2_with go_in
      go_returns
      exact ⟨by simp [tickD, moves, Dr.val, hk], by go_grown⟩
    · obtain rfl : k = 2 := by omega
      clear hk
      rcases (show r = 0 ∨ 0 < r by omega) with rfl | hr
      · go_enter Tryd.func43, Tryd.ntmps43
        go_wp2_with go_in
        go_returns
        exact ⟨by simp [tickD, moves, Dr.val], by go_grown⟩
      · have hr0 : (r == 0) = false := beq_eq_false_iff_ne.2 (by omega)
        have hr1 : ¬ r = 0 := by omega
        go_enter Tryd.func43, Tryd.ntmps43
        go_wp2_with go_in
        go_returns
        exact ⟨by simp [tickD, moves, Dr.val, hr1], by go_grown⟩

set_option maxHeartbeats 2000000 in
theorem impl_doorAfter (p k r ev : Int) (w : World) (h : Dr.fits ⟨p, k, r⟩) (he : 1 ≤ ev) (he' : ev ≤ 4) : Calls Tryd.prog 40 #[.agg #[.int .i64 p, .int .i64 k, .int .i64 r], .int .i64 ev] w
    fun e' w' => e' = .returned (.tuple #[(doorStep ⟨p, k, r⟩ ev).val, .bool (doorMay ⟨p, k, r⟩ ev)]) ∧ Below w.heap.size w w' := by
  have ct := fun W => impl_Door_tick p k r W h
  obtain ⟨h0, h1, h2, h3, h4, h5⟩ := h
  simp only at h0 h1 h2 h3 h4 h5
  rcases (show ev = 4 ∨ ev = 1 ∨ ev = 2 ∨ ev = 3 by omega) with rfl | rfl | rfl | rfl
  · have e1 : doorStep ⟨p, k, r⟩ 4 = tickD ⟨p, k, r⟩ := by simp [doorStep, doorMay]
    have e2 : doorMay ⟨p, k, r⟩ 4 = true := by simp [doorMay]
    rw [e1, e2]
    clear e1 e2
    generalize tickD ⟨p, k, r⟩ = R at *
    obtain ⟨r1, r2, r3⟩ := R
    simp only [Dr.val] at *
    go_enter Tryd.func40, Tryd.ntmps40
    go_wp2_with (go_at_call 43; (with_reducible refine (ct _).mono ?_); rintro e w' ⟨rfl, hb⟩; obtain ⟨hc, hf, hs⟩ := bkeep hb; have hz : w.heap.size + 1 < w'.heap.size := (by have := hb.size; (try simp at this); omega); have hB : Below w.heap.size w w' := Below.trans (by go_grown) (hb.mono (by go_size)); (have F0 : (w').frozen? ⟨w.heap.size + 1, 0, none⟩ = false := (by go_simp); have Q0 : (w').cell? ⟨w.heap.size + 1, 0, none⟩ = some (.int .i64 0) := (by go_simp); have F1 : (w').frozen? ⟨w.heap.size + 1, 1, none⟩ = false := (by go_simp); have Q1 : (w').cell? ⟨w.heap.size + 1, 1, none⟩ = some (.int .i64 0) := (by go_simp); have F2 : (w').frozen? ⟨w.heap.size + 1, 2, none⟩ = false := (by go_simp); have Q2 : (w').cell? ⟨w.heap.size + 1, 2, none⟩ = some (.int .i64 0) := (by go_simp); have Z3 : w.heap.size + 1 < (w').heap.size := (by first | omega | (simp; done) | (simp; omega)); have BB : Below w.heap.size w (w') := (by go_grown); generalize w' = w2 at *); clear hc hf hs hb)
    refine bodyPost_ret (by simp [results, Tryd.results40, go_sem, *]; try rfl) rfl ?_
    exact ⟨rfl, by go_grown⟩
  all_goals
    rcases (show p = 0 ∨ p = 2 ∨ p = 1 ∨ p = 3 by omega) with rfl | rfl | rfl | rfl
  iterate 11
    · go_enter Tryd.func40, Tryd.ntmps40
      go_wp2
      go_returns
      exact ⟨by simp [doorStep, doorMay, Dr.val], by go_grown⟩
  · by_cases hr : r < 3
    · go_enter Tryd.func40, Tryd.ntmps40
      go_wp2
      go_returns
      exact ⟨by simp [doorStep, doorMay, Dr.val, hr], by go_grown⟩
    · obtain rfl : r = 3 := by omega
      go_enter Tryd.func40, Tryd.ntmps40
      go_wp2
      go_returns
      exact ⟨by simp [doorStep, doorMay, Dr.val], by go_grown⟩

set_option maxHeartbeats 2000000 in
theorem spec_l14After (p k r ev : Int) (w : World) (h : Dr.fits ⟨p, k, r⟩) (he : 1 ≤ ev) (he' : ev ≤ 4) : Calls Tryd.prog 45 #[.agg #[.int .i64 p, .int .i64 k, .int .i64 r], .int .i64 ev] w
    fun e' w' => e' = .returned (.tuple #[(doorStep ⟨p, k, r⟩ ev).val, .bool (doorMay ⟨p, k, r⟩ ev)]) ∧ Below w.heap.size w w' := by
  obtain ⟨h0, h1, h2, h3, h4, h5⟩ := h
  simp only at h0 h1 h2 h3 h4 h5
  rcases (show ev = 1 ∨ ev = 2 ∨ ev = 3 ∨ ev = 4 by omega) with rfl | rfl | rfl | rfl
  all_goals
    rcases (show p = 0 ∨ p = 2 ∨ p = 1 ∨ p = 3 by omega) with rfl | rfl | rfl | rfl
  iterate 11
    · go_enter Tryd.func45, Tryd.ntmps45
      go_wp2
      go_returns
      exact ⟨by simp [doorStep, doorMay, Dr.val], by go_grown⟩
  · by_cases hr : r < 3
    · have hr3 : (r == 3) = false := beq_eq_false_iff_ne.2 (by omega)
      go_enter Tryd.func45, Tryd.ntmps45
      go_wp2
      go_returns
      exact ⟨by simp [doorStep, doorMay, Dr.val, hr], by go_grown⟩
    · obtain rfl : r = 3 := by omega
      go_enter Tryd.func45, Tryd.ntmps45
      go_wp2
      go_returns
      exact ⟨by simp [doorStep, doorMay, Dr.val], by go_grown⟩
  iterate 2
    · go_enter Tryd.func45, Tryd.ntmps45
      go_wp2
      go_returns
      exact ⟨by simp [doorStep, doorMay, tickD, moves, Dr.val], by go_grown⟩
  all_goals
    by_cases hk : k + 1 < 3
    · go_enter Tryd.func45, Tryd.ntmps45
      go_wp2
      go_returns
      exact ⟨by simp [doorStep, doorMay, tickD, moves, Dr.val, hk], by go_grown⟩
    · obtain rfl : k = 2 := by omega
      clear hk
      rcases (show r = 0 ∨ 0 < r by omega) with rfl | hr
      · go_enter Tryd.func45, Tryd.ntmps45
        go_wp2
        go_returns
        exact ⟨by simp [doorStep, doorMay, tickD, moves, Dr.val], by go_grown⟩
      · have hr1 : ¬ r = 0 := by omega
        go_enter Tryd.func45, Tryd.ntmps45
        go_wp2
        go_returns
        exact ⟨by simp [doorStep, doorMay, tickD, moves, Dr.val, hr1], by go_grown⟩

end Go.Proofs.YtdhjnpjemaofoaaDoor
