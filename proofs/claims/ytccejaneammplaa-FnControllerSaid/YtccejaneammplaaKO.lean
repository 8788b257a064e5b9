/-
  Contracts: the next state.
-/
import Derived.Test.YtccejaneammplaaKN
import Derived.Test.YtccejaneammplaaKM
import Derived.Deep.DeepCutAuto
namespace Go.Proofs.Ytccejaneammplaa
open Go.RowKit
set_option linter.unusedVariables false
set_option linter.unusedSimpArgs false


set_option maxHeartbeats 1000000 in
theorem impl_NextState (m : Int) (o a b e : Bool) (ev : Int) (w : World) : Calls Try.prog 8 #[.agg #[.int .i64 m, .bool o, .bool a, .bool b, .bool e], .int .i64 ev] w
    fun e' w' => e' = .returned (.tuple #[(nextV ⟨m, o, a, b, e⟩ ev).val, .int .i64 (nextCode ⟨m, o, a, b, e⟩ ev)]) ∧ Below w.heap.size w w' := by
  have kv := fun W => impl_ValidControl m o a b e W
  have kE := fun W => impl_isEvent ev W
  have ka := fun W => impl_isAllowed m o a b e ev W
  have kf := fun W => impl_after m o a b e ev W
  cases h1 : inB m 0 4
  · obtain ⟨e1, e2⟩ := next_1 (x := ⟨m, o, a, b, e⟩) (ev := ev) h1
    rw [e1, e2]
    clear e1 e2
    rw [h1] at kv
    go_enter Try.func8, Try.ntmps8
    go_wp2_with (first | (go_at_call 20; (with_reducible refine (kv _).mono ?_); rintro e w' ⟨rfl, hb⟩; obtain ⟨hc, hf⟩ := bcell hb; have hz : w.heap.size < w'.heap.size := (by have := hb.size; (try simp at this); omega); have hz1 : w.heap.size + 1 < w'.heap.size := (by have := hb.size; (try simp at this); omega); have hB : Below w.heap.size w w' := Below.trans (by go_grown) (hb.mono (by go_size))) | (go_at_call 23; (with_reducible refine (kE _).mono ?_); rintro e w' ⟨rfl, rfl⟩) | (go_at_call 24; (with_reducible refine (ka _).mono ?_); rintro e w' ⟨rfl, hb⟩; obtain ⟨hc, hf⟩ := bcell hb; have hz : w.heap.size < w'.heap.size := (by have := hb.size; (try simp at this); omega); have hz1 : w.heap.size + 1 < w'.heap.size := (by have := hb.size; (try simp at this); omega); have hB : Below w.heap.size w w' := Below.trans (by go_grown) (hb.mono (by go_size))) | (go_at_call 25; (with_reducible refine (kf _).mono ?_); rintro e w' ⟨rfl, hb⟩; obtain ⟨hc, hf⟩ := bcell hb; have hz : w.heap.size < w'.heap.size := (by have := hb.size; (try simp at this); omega); have hz1 : w.heap.size + 1 < w'.heap.size := (by have := hb.size; (try simp at this); omega); have hB : Below w.heap.size w w' := Below.trans (by go_grown) (hb.mono (by go_size))))
    refine bodyPost_ret (by simp [results, Try.results8, go_sem, *]; try rfl) rfl ?_
    exact ⟨rfl, by go_grown⟩
  · cases h2 : inB ev 1 9
    · obtain ⟨e1, e2⟩ := next_2 (x := ⟨m, o, a, b, e⟩) (ev := ev) h1 h2
      rw [e1, e2]
      clear e1 e2
      rw [h1] at kv
      rw [h2] at kE
      go_enter Try.func8, Try.ntmps8
      go_wp2_with (first | (go_at_call 20; (with_reducible refine (kv _).mono ?_); rintro e w' ⟨rfl, hb⟩; obtain ⟨hc, hf⟩ := bcell hb; have hz : w.heap.size < w'.heap.size := (by have := hb.size; (try simp at this); omega); have hz1 : w.heap.size + 1 < w'.heap.size := (by have := hb.size; (try simp at this); omega); have hB : Below w.heap.size w w' := Below.trans (by go_grown) (hb.mono (by go_size))) | (go_at_call 23; (with_reducible refine (kE _).mono ?_); rintro e w' ⟨rfl, rfl⟩) | (go_at_call 24; (with_reducible refine (ka _).mono ?_); rintro e w' ⟨rfl, hb⟩; obtain ⟨hc, hf⟩ := bcell hb; have hz : w.heap.size < w'.heap.size := (by have := hb.size; (try simp at this); omega); have hz1 : w.heap.size + 1 < w'.heap.size := (by have := hb.size; (try simp at this); omega); have hB : Below w.heap.size w w' := Below.trans (by go_grown) (hb.mono (by go_size))) | (go_at_call 25; (with_reducible refine (kf _).mono ?_); rintro e w' ⟨rfl, hb⟩; obtain ⟨hc, hf⟩ := bcell hb; have hz : w.heap.size < w'.heap.size := (by have := hb.size; (try simp at this); omega); have hz1 : w.heap.size + 1 < w'.heap.size := (by have := hb.size; (try simp at this); omega); have hB : Below w.heap.size w w' := Below.trans (by go_grown) (hb.mono (by go_size))))
      refine bodyPost_ret (by simp [results, Try.results8, go_sem, *]; try rfl) rfl ?_
      exact ⟨rfl, by go_grown⟩
    · cases h3 : allowed ⟨m, o, a, b, e⟩ ev
      · obtain ⟨e1, e2⟩ := next_6 (x := ⟨m, o, a, b, e⟩) (ev := ev) h1 h2 h3
        rw [e1, e2]
        clear e1 e2
        rw [h1] at kv
        rw [h2] at kE
        rw [h3] at ka
        go_enter Try.func8, Try.ntmps8
        go_wp2_with (first | (go_at_call 20; (with_reducible refine (kv _).mono ?_); rintro e w' ⟨rfl, hb⟩; obtain ⟨hc, hf⟩ := bcell hb; have hz : w.heap.size < w'.heap.size := (by have := hb.size; (try simp at this); omega); have hz1 : w.heap.size + 1 < w'.heap.size := (by have := hb.size; (try simp at this); omega); have hB : Below w.heap.size w w' := Below.trans (by go_grown) (hb.mono (by go_size))) | (go_at_call 23; (with_reducible refine (kE _).mono ?_); rintro e w' ⟨rfl, rfl⟩) | (go_at_call 24; (with_reducible refine (ka _).mono ?_); rintro e w' ⟨rfl, hb⟩; obtain ⟨hc, hf⟩ := bcell hb; have hz : w.heap.size < w'.heap.size := (by have := hb.size; (try simp at this); omega); have hz1 : w.heap.size + 1 < w'.heap.size := (by have := hb.size; (try simp at this); omega); have hB : Below w.heap.size w w' := Below.trans (by go_grown) (hb.mono (by go_size))) | (go_at_call 25; (with_reducible refine (kf _).mono ?_); rintro e w' ⟨rfl, hb⟩; obtain ⟨hc, hf⟩ := bcell hb; have hz : w.heap.size < w'.heap.size := (by have := hb.size; (try simp at this); omega); have hz1 : w.heap.size + 1 < w'.heap.size := (by have := hb.size; (try simp at this); omega); have hB : Below w.heap.size w w' := Below.trans (by go_grown) (hb.mono (by go_size))))
        refine bodyPost_ret (by simp [results, Try.results8, go_sem, *]; try rfl) rfl ?_
        exact ⟨rfl, by go_grown⟩
      · obtain ⟨e1, e2⟩ := next_0 (x := ⟨m, o, a, b, e⟩) (ev := ev) h1 h2 h3
        rw [e1, e2]
        clear e1 e2
        rw [h1] at kv
        rw [h2] at kE
        rw [h3] at ka
        generalize after ⟨m, o, a, b, e⟩ ev = R at *
        obtain ⟨r1, r2, r3, r4, r5⟩ := R
        simp only [St.val] at *
        go_enter Try.func8, Try.ntmps8
        go_wp2_with (first | (go_at_call 20; (with_reducible refine (kv _).mono ?_); rintro e w' ⟨rfl, hb⟩; obtain ⟨hc, hf⟩ := bcell hb; have hz : w.heap.size < w'.heap.size := (by have := hb.size; (try simp at this); omega); have hz1 : w.heap.size + 1 < w'.heap.size := (by have := hb.size; (try simp at this); omega); have hB : Below w.heap.size w w' := Below.trans (by go_grown) (hb.mono (by go_size))) | (go_at_call 23; (with_reducible refine (kE _).mono ?_); rintro e w' ⟨rfl, rfl⟩) | (go_at_call 24; (with_reducible refine (ka _).mono ?_); rintro e w' ⟨rfl, hb⟩; obtain ⟨hc, hf⟩ := bcell hb; have hz : w.heap.size < w'.heap.size := (by have := hb.size; (try simp at this); omega); have hz1 : w.heap.size + 1 < w'.heap.size := (by have := hb.size; (try simp at this); omega); have hB : Below w.heap.size w w' := Below.trans (by go_grown) (hb.mono (by go_size))) | (go_at_call 25; (with_reducible refine (kf _).mono ?_); rintro e w' ⟨rfl, hb⟩; obtain ⟨hc, hf⟩ := bcell hb; have hz : w.heap.size < w'.heap.size := (by have := hb.size; (try simp at this); omega); have hz1 : w.heap.size + 1 < w'.heap.size := (by have := hb.size; (try simp at this); omega); have hB : Below w.heap.size w w' := Below.trans (by go_grown) (hb.mono (by go_size))))
        refine bodyPost_ret (by simp [results, Try.results8, go_sem, *]; try rfl) rfl ?_
        exact ⟨rfl, by go_grown⟩

set_option maxHeartbeats 1000000 in
theorem spec_NextState (m : Int) (o a b e : Bool) (ev : Int) (w : World) : Calls Try.prog 14 #[.agg #[.int .i64 m, .bool o, .bool a, .bool b, .bool e], .int .i64 ev] w
    fun e' w' => e' = .returned (.tuple #[(nextV ⟨m, o, a, b, e⟩ ev).val, .int .i64 (nextCode ⟨m, o, a, b, e⟩ ev)]) ∧ Below w.heap.size w w' := by
  have kv := fun W h => spec_l13Ok w.heap.size 0 m W h
  have kE := fun W => spec_l13Event ev W
  cases h1 : inB m 0 4
  · obtain ⟨e1, e2⟩ := next_1 (x := ⟨m, o, a, b, e⟩) (ev := ev) h1
    rw [e1, e2]
    clear e1 e2
    rw [h1] at kv
    go_enter Try.func14, Try.ntmps14
    go_wp2_with (first | (go_at_call 26; refine (kv _ (by go_cell)).mono ?_; rintro e' w' ⟨rfl, rfl⟩) | (go_at_call 27; (with_reducible refine (kE _).mono ?_); rintro e w' ⟨rfl, rfl⟩))
    refine bodyPost_ret (by simp [results, Try.results14, go_sem, *]; try rfl) rfl ?_
    exact ⟨rfl, by go_grown⟩
  · cases h2 : inB ev 1 9
    · obtain ⟨e1, e2⟩ := next_2 (x := ⟨m, o, a, b, e⟩) (ev := ev) h1 h2
      rw [e1, e2]
      clear e1 e2
      rw [h1] at kv
      rw [h2] at kE
      go_enter Try.func14, Try.ntmps14
      go_wp2_with (first | (go_at_call 26; refine (kv _ (by go_cell)).mono ?_; rintro e' w' ⟨rfl, rfl⟩) | (go_at_call 27; (with_reducible refine (kE _).mono ?_); rintro e w' ⟨rfl, rfl⟩))
      refine bodyPost_ret (by simp [results, Try.results14, go_sem, *]; try rfl) rfl ?_
      exact ⟨rfl, by go_grown⟩
    · cases h3 : allowed ⟨m, o, a, b, e⟩ ev
      · obtain ⟨e1, e2⟩ := next_6 (x := ⟨m, o, a, b, e⟩) (ev := ev) h1 h2 h3
        rw [e1, e2]
        clear e1 e2
        rw [h1] at kv
        rw [h2] at kE
        obtain ⟨g1, g2⟩ := inB_true.1 h2
        have ka := fun W => spec_l13Next m o a b e ev W g1 g2
        rw [h3] at ka
        generalize step ⟨m, o, a, b, e⟩ ev = R at *
        obtain ⟨r1, r2, r3, r4, r5⟩ := R
        simp only [St.val] at *
        go_enter Try.func14, Try.ntmps14
        go_upto_region 7 with (first | (go_at_call 26; refine (kv _ (by go_cell)).mono ?_; rintro e' w' ⟨rfl, rfl⟩) | (go_at_call 27; (with_reducible refine (kE _).mono ?_); rintro e w' ⟨rfl, rfl⟩) | (go_at_call 28; (with_reducible refine (ka _).mono ?_); rintro e w' ⟨rfl, hb⟩; obtain ⟨hc, hf⟩ := bcell hb; have hz : w.heap.size < w'.heap.size := (by have := hb.size; (try simp at this); omega); have hz1 : w.heap.size + 1 < w'.heap.size := (by have := hb.size; (try simp at this); omega); have hB : Below w.heap.size w w' := Below.trans (by go_grown) (hb.mono (by go_size))))
        (have F0 : (w'.alloc (Obj.cells #[.int .i64 r1, .bool r2, .bool r3, .bool r4, .bool r5] 25)).frozen? ⟨w.heap.size + 1, 0, none⟩ = false := (by go_simp); have Q0 : (w'.alloc (Obj.cells #[.int .i64 r1, .bool r2, .bool r3, .bool r4, .bool r5] 25)).cell? ⟨w.heap.size + 1, 0, none⟩ = some (.int .i64 0) := (by go_simp); have F1 : (w'.alloc (Obj.cells #[.int .i64 r1, .bool r2, .bool r3, .bool r4, .bool r5] 25)).frozen? ⟨w.heap.size + 1, 1, none⟩ = false := (by go_simp); have Q1 : (w'.alloc (Obj.cells #[.int .i64 r1, .bool r2, .bool r3, .bool r4, .bool r5] 25)).cell? ⟨w.heap.size + 1, 1, none⟩ = some (.bool false) := (by go_simp); have F2 : (w'.alloc (Obj.cells #[.int .i64 r1, .bool r2, .bool r3, .bool r4, .bool r5] 25)).frozen? ⟨w.heap.size + 1, 2, none⟩ = false := (by go_simp); have Q2 : (w'.alloc (Obj.cells #[.int .i64 r1, .bool r2, .bool r3, .bool r4, .bool r5] 25)).cell? ⟨w.heap.size + 1, 2, none⟩ = some (.bool false) := (by go_simp); have F3 : (w'.alloc (Obj.cells #[.int .i64 r1, .bool r2, .bool r3, .bool r4, .bool r5] 25)).frozen? ⟨w.heap.size + 1, 3, none⟩ = false := (by go_simp); have Q3 : (w'.alloc (Obj.cells #[.int .i64 r1, .bool r2, .bool r3, .bool r4, .bool r5] 25)).cell? ⟨w.heap.size + 1, 3, none⟩ = some (.bool false) := (by go_simp); have F4 : (w'.alloc (Obj.cells #[.int .i64 r1, .bool r2, .bool r3, .bool r4, .bool r5] 25)).frozen? ⟨w.heap.size + 1, 4, none⟩ = false := (by go_simp); have Q4 : (w'.alloc (Obj.cells #[.int .i64 r1, .bool r2, .bool r3, .bool r4, .bool r5] 25)).cell? ⟨w.heap.size + 1, 4, none⟩ = some (.bool false) := (by go_simp); have Z5 : w.heap.size + 1 < (w'.alloc (Obj.cells #[.int .i64 r1, .bool r2, .bool r3, .bool r4, .bool r5] 25)).heap.size := (by first | omega | (simp; done) | (simp; omega)); have BB : Below w.heap.size w (w'.alloc (Obj.cells #[.int .i64 r1, .bool r2, .bool r3, .bool r4, .bool r5] 25)) := (by go_grown); generalize w'.alloc (Obj.cells #[.int .i64 r1, .bool r2, .bool r3, .bool r4, .bool r5] 25) = w2 at *)
        clear hc hf hb kv kE ka hz hz1 hB
        go_wp2
        refine bodyPost_ret (by simp [results, Try.results14, go_sem, *]; try rfl) rfl ?_
        exact ⟨rfl, by go_grown⟩
      · obtain ⟨e1, e2⟩ := next_0 (x := ⟨m, o, a, b, e⟩) (ev := ev) h1 h2 h3
        rw [e1, e2]
        clear e1 e2
        rw [h1] at kv
        rw [h2] at kE
        obtain ⟨g1, g2⟩ := inB_true.1 h2
        have ka := fun W => spec_l13Next m o a b e ev W g1 g2
        rw [h3, step_0 h3] at ka
        generalize after ⟨m, o, a, b, e⟩ ev = R at *
        obtain ⟨r1, r2, r3, r4, r5⟩ := R
        simp only [St.val] at *
        go_enter Try.func14, Try.ntmps14
        go_upto_region 8 with (first | (go_at_call 26; refine (kv _ (by go_cell)).mono ?_; rintro e' w' ⟨rfl, rfl⟩) | (go_at_call 27; (with_reducible refine (kE _).mono ?_); rintro e w' ⟨rfl, rfl⟩) | (go_at_call 28; (with_reducible refine (ka _).mono ?_); rintro e w' ⟨rfl, hb⟩; obtain ⟨hc, hf⟩ := bcell hb; have hz : w.heap.size < w'.heap.size := (by have := hb.size; (try simp at this); omega); have hz1 : w.heap.size + 1 < w'.heap.size := (by have := hb.size; (try simp at this); omega); have hB : Below w.heap.size w w' := Below.trans (by go_grown) (hb.mono (by go_size))))
        (have F0 : (w'.alloc (Obj.cells #[.int .i64 r1, .bool r2, .bool r3, .bool r4, .bool r5] 25)).frozen? ⟨w.heap.size + 1, 0, none⟩ = false := (by go_simp); have Q0 : (w'.alloc (Obj.cells #[.int .i64 r1, .bool r2, .bool r3, .bool r4, .bool r5] 25)).cell? ⟨w.heap.size + 1, 0, none⟩ = some (.int .i64 0) := (by go_simp); have F1 : (w'.alloc (Obj.cells #[.int .i64 r1, .bool r2, .bool r3, .bool r4, .bool r5] 25)).frozen? ⟨w.heap.size + 1, 1, none⟩ = false := (by go_simp); have Q1 : (w'.alloc (Obj.cells #[.int .i64 r1, .bool r2, .bool r3, .bool r4, .bool r5] 25)).cell? ⟨w.heap.size + 1, 1, none⟩ = some (.bool false) := (by go_simp); have F2 : (w'.alloc (Obj.cells #[.int .i64 r1, .bool r2, .bool r3, .bool r4, .bool r5] 25)).frozen? ⟨w.heap.size + 1, 2, none⟩ = false := (by go_simp); have Q2 : (w'.alloc (Obj.cells #[.int .i64 r1, .bool r2, .bool r3, .bool r4, .bool r5] 25)).cell? ⟨w.heap.size + 1, 2, none⟩ = some (.bool false) := (by go_simp); have F3 : (w'.alloc (Obj.cells #[.int .i64 r1, .bool r2, .bool r3, .bool r4, .bool r5] 25)).frozen? ⟨w.heap.size + 1, 3, none⟩ = false := (by go_simp); have Q3 : (w'.alloc (Obj.cells #[.int .i64 r1, .bool r2, .bool r3, .bool r4, .bool r5] 25)).cell? ⟨w.heap.size + 1, 3, none⟩ = some (.bool false) := (by go_simp); have F4 : (w'.alloc (Obj.cells #[.int .i64 r1, .bool r2, .bool r3, .bool r4, .bool r5] 25)).frozen? ⟨w.heap.size + 1, 4, none⟩ = false := (by go_simp); have Q4 : (w'.alloc (Obj.cells #[.int .i64 r1, .bool r2, .bool r3, .bool r4, .bool r5] 25)).cell? ⟨w.heap.size + 1, 4, none⟩ = some (.bool false) := (by go_simp); have Z5 : w.heap.size + 1 < (w'.alloc (Obj.cells #[.int .i64 r1, .bool r2, .bool r3, .bool r4, .bool r5] 25)).heap.size := (by first | omega | (simp; done) | (simp; omega)); have Q5 : (w'.alloc (Obj.cells #[.int .i64 r1, .bool r2, .bool r3, .bool r4, .bool r5] 25)).cell? ⟨w'.heap.size, 0, none⟩ = some (.int .i64 r1) := (by go_simp); have Q6 : (w'.alloc (Obj.cells #[.int .i64 r1, .bool r2, .bool r3, .bool r4, .bool r5] 25)).cell? ⟨w'.heap.size, 1, none⟩ = some (.bool r2) := (by go_simp); have Q7 : (w'.alloc (Obj.cells #[.int .i64 r1, .bool r2, .bool r3, .bool r4, .bool r5] 25)).cell? ⟨w'.heap.size, 2, none⟩ = some (.bool r3) := (by go_simp); have Q8 : (w'.alloc (Obj.cells #[.int .i64 r1, .bool r2, .bool r3, .bool r4, .bool r5] 25)).cell? ⟨w'.heap.size, 3, none⟩ = some (.bool r4) := (by go_simp); have Q9 : (w'.alloc (Obj.cells #[.int .i64 r1, .bool r2, .bool r3, .bool r4, .bool r5] 25)).cell? ⟨w'.heap.size, 4, none⟩ = some (.bool r5) := (by go_simp); have Z10 : w'.heap.size < (w'.alloc (Obj.cells #[.int .i64 r1, .bool r2, .bool r3, .bool r4, .bool r5] 25)).heap.size := (by first | omega | (simp; done) | (simp; omega)); have BB : Below w.heap.size w (w'.alloc (Obj.cells #[.int .i64 r1, .bool r2, .bool r3, .bool r4, .bool r5] 25)) := (by go_grown); generalize w'.alloc (Obj.cells #[.int .i64 r1, .bool r2, .bool r3, .bool r4, .bool r5] 25) = w2 at *)
        generalize w'.heap.size = g2 at *
        clear hc hf hb kv kE ka hB
        go_wp2
        refine bodyPost_ret (by simp [results, Try.results14, go_sem, *]; try rfl) rfl ?_
        exact ⟨rfl, by go_grown⟩

end Go.Proofs.Ytccejaneammplaa
