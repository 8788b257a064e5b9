/-
  Contracts: a door after an event.
-/
import Derived.Test.YtdhjnpjemaofoaaDoorKU
import Derived.Deep.DeepCutAuto
namespace Go.Proofs.YtdhjnpjemaofoaaDoor
open Go.RowKit
set_option linter.unusedVariables false
set_option linter.unusedSimpArgs false


set_option maxHeartbeats 1000000 in
theorem impl_DoorAfter (p k r ev : Int) (w : World) : Calls Tryd.prog 11 #[.agg #[.int .i64 p, .int .i64 k, .int .i64 r], .int .i64 ev] w
    fun e' w' => e' = .returned (.tuple #[(doorV ⟨p, k, r⟩ ev).val, .int .i64 (doorCode ⟨p, k, r⟩ ev)]) ∧ Below w.heap.size w w' := by
  have kv := fun W => impl_ValidDoor p k r W
  have kE := fun W => impl_isDoorEvent ev W
  cases h1 : validDoor p k r
  · obtain ⟨e1, e2⟩ := door_1 (d := ⟨p, k, r⟩) (ev := ev) h1
    rw [e1, e2]
    clear e1 e2
    rw [h1] at kv
    go_enter Tryd.func11, Tryd.ntmps11
    go_wp2_with (first | (go_at_call 38; (with_reducible refine (kv _).mono ?_); rintro e w' ⟨rfl, hb⟩; obtain ⟨hc, hf⟩ := bcell hb; have hz : w.heap.size < w'.heap.size := (by have := hb.size; (try simp at this); omega); have hz1 : w.heap.size + 1 < w'.heap.size := (by have := hb.size; (try simp at this); omega); have hB : Below w.heap.size w w' := Below.trans (by go_grown) (hb.mono (by go_size))) | (go_at_call 39; (with_reducible refine (kE _).mono ?_); rintro e w' ⟨rfl, rfl⟩))
    refine bodyPost_ret (by simp [results, Tryd.results11, go_sem, *]; try rfl) rfl ?_
    exact ⟨rfl, by go_grown⟩
  · rw [h1] at kv
    cases h2 : inB ev 1 4
    · obtain ⟨e1, e2⟩ := door_2 (d := ⟨p, k, r⟩) (ev := ev) h1 h2
      rw [e1, e2]
      clear e1 e2
      rw [h2] at kE
      go_enter Tryd.func11, Tryd.ntmps11
      go_wp2_with (first | (go_at_call 38; (with_reducible refine (kv _).mono ?_); rintro e w' ⟨rfl, hb⟩; obtain ⟨hc, hf⟩ := bcell hb; have hz : w.heap.size < w'.heap.size := (by have := hb.size; (try simp at this); omega); have hz1 : w.heap.size + 1 < w'.heap.size := (by have := hb.size; (try simp at this); omega); have hB : Below w.heap.size w w' := Below.trans (by go_grown) (hb.mono (by go_size))) | (go_at_call 39; (with_reducible refine (kE _).mono ?_); rintro e w' ⟨rfl, rfl⟩))
      refine bodyPost_ret (by simp [results, Tryd.results11, go_sem, *]; try rfl) rfl ?_
      exact ⟨rfl, by go_grown⟩
    · rw [h2] at kE
      obtain ⟨g1, g2⟩ := inB_true.1 h2
      have ka := fun W => impl_doorAfter p k r ev W (Dr.ok_fits h1) g1 g2
      cases h3 : doorMay ⟨p, k, r⟩ ev
      · obtain ⟨e1, e2⟩ := door_6 (d := ⟨p, k, r⟩) (ev := ev) h1 h2 h3
        rw [e1, e2]
        rw [h3] at ka
        clear e1 e2 h1 h2 h3 g1 g2
        generalize doorStep ⟨p, k, r⟩ ev = R at *
        obtain ⟨r1, r2, r3⟩ := R
        simp only [Dr.val] at *
        go_enter Tryd.func11, Tryd.ntmps11
        go_upto_region 7 with (first | (go_at_call 38; (with_reducible refine (kv _).mono ?_); rintro e w' ⟨rfl, hb⟩; obtain ⟨hc, hf⟩ := bcell hb; have hz : w.heap.size < w'.heap.size := (by have := hb.size; (try simp at this); omega); have hz1 : w.heap.size + 1 < w'.heap.size := (by have := hb.size; (try simp at this); omega); have hB : Below w.heap.size w w' := Below.trans (by go_grown) (hb.mono (by go_size))) | (go_at_call 39; (with_reducible refine (kE _).mono ?_); rintro e w' ⟨rfl, rfl⟩) | (go_at_call 40; (with_reducible refine (ka _).mono ?_); rintro e w' ⟨rfl, hb⟩; obtain ⟨hc, hf⟩ := bcell hb; have hz : w.heap.size < w'.heap.size := (by have := hb.size; (try simp at this); omega); have hz1 : w.heap.size + 1 < w'.heap.size := (by have := hb.size; (try simp at this); omega); have hB : Below w.heap.size w w' := Below.trans (by go_grown) (hb.mono (by go_size))))
        (have F0 : (w'.alloc (Obj.cells #[.int .i64 r1, .int .i64 r2, .int .i64 r3] 25)).frozen? ⟨w.heap.size + 1, 0, none⟩ = false := (by go_simp); have Q0 : (w'.alloc (Obj.cells #[.int .i64 r1, .int .i64 r2, .int .i64 r3] 25)).cell? ⟨w.heap.size + 1, 0, none⟩ = some (.int .i64 0) := (by go_simp); have F1 : (w'.alloc (Obj.cells #[.int .i64 r1, .int .i64 r2, .int .i64 r3] 25)).frozen? ⟨w.heap.size + 1, 1, none⟩ = false := (by go_simp); have Q1 : (w'.alloc (Obj.cells #[.int .i64 r1, .int .i64 r2, .int .i64 r3] 25)).cell? ⟨w.heap.size + 1, 1, none⟩ = some (.int .i64 0) := (by go_simp); have F2 : (w'.alloc (Obj.cells #[.int .i64 r1, .int .i64 r2, .int .i64 r3] 25)).frozen? ⟨w.heap.size + 1, 2, none⟩ = false := (by go_simp); have Q2 : (w'.alloc (Obj.cells #[.int .i64 r1, .int .i64 r2, .int .i64 r3] 25)).cell? ⟨w.heap.size + 1, 2, none⟩ = some (.int .i64 0) := (by go_simp); have Z3 : w.heap.size + 1 < (w'.alloc (Obj.cells #[.int .i64 r1, .int .i64 r2, .int .i64 r3] 25)).heap.size := (by first | omega | (simp; done) | (simp; omega)); have BB : Below w.heap.size w (w'.alloc (Obj.cells #[.int .i64 r1, .int .i64 r2, .int .i64 r3] 25)) := (by go_grown); generalize w'.alloc (Obj.cells #[.int .i64 r1, .int .i64 r2, .int .i64 r3] 25) = w2 at *)
        clear hc hf hb kv kE ka hz hz1 hB
        go_wp2
        refine bodyPost_ret (by simp [results, Tryd.results11, go_sem, *]; try rfl) rfl ?_
        exact ⟨rfl, by go_grown⟩
      · obtain ⟨e1, e2⟩ := door_0 (d := ⟨p, k, r⟩) (ev := ev) h1 h2 h3
        rw [e1, e2]
        rw [h3] at ka
        clear e1 e2 h1 h2 h3 g1
        generalize doorStep ⟨p, k, r⟩ ev = R at *
        obtain ⟨r1, r2, r3⟩ := R
        simp only [Dr.val] at *
        go_enter Tryd.func11, Tryd.ntmps11
        go_upto_region 8 with (first | (go_at_call 38; (with_reducible refine (kv _).mono ?_); rintro e w' ⟨rfl, hb⟩; obtain ⟨hc, hf⟩ := bcell hb; have hz : w.heap.size < w'.heap.size := (by have := hb.size; (try simp at this); omega); have hz1 : w.heap.size + 1 < w'.heap.size := (by have := hb.size; (try simp at this); omega); have hB : Below w.heap.size w w' := Below.trans (by go_grown) (hb.mono (by go_size))) | (go_at_call 39; (with_reducible refine (kE _).mono ?_); rintro e w' ⟨rfl, rfl⟩) | (go_at_call 40; (with_reducible refine (ka _).mono ?_); rintro e w' ⟨rfl, hb⟩; obtain ⟨hc, hf⟩ := bcell hb; have hz : w.heap.size < w'.heap.size := (by have := hb.size; (try simp at this); omega); have hz1 : w.heap.size + 1 < w'.heap.size := (by have := hb.size; (try simp at this); omega); have hB : Below w.heap.size w w' := Below.trans (by go_grown) (hb.mono (by go_size))))
        (have F0 : (w'.alloc (Obj.cells #[.int .i64 r1, .int .i64 r2, .int .i64 r3] 25)).frozen? ⟨w.heap.size + 1, 0, none⟩ = false := (by go_simp); have Q0 : (w'.alloc (Obj.cells #[.int .i64 r1, .int .i64 r2, .int .i64 r3] 25)).cell? ⟨w.heap.size + 1, 0, none⟩ = some (.int .i64 0) := (by go_simp); have F1 : (w'.alloc (Obj.cells #[.int .i64 r1, .int .i64 r2, .int .i64 r3] 25)).frozen? ⟨w.heap.size + 1, 1, none⟩ = false := (by go_simp); have Q1 : (w'.alloc (Obj.cells #[.int .i64 r1, .int .i64 r2, .int .i64 r3] 25)).cell? ⟨w.heap.size + 1, 1, none⟩ = some (.int .i64 0) := (by go_simp); have F2 : (w'.alloc (Obj.cells #[.int .i64 r1, .int .i64 r2, .int .i64 r3] 25)).frozen? ⟨w.heap.size + 1, 2, none⟩ = false := (by go_simp); have Q2 : (w'.alloc (Obj.cells #[.int .i64 r1, .int .i64 r2, .int .i64 r3] 25)).cell? ⟨w.heap.size + 1, 2, none⟩ = some (.int .i64 0) := (by go_simp); have Z3 : w.heap.size + 1 < (w'.alloc (Obj.cells #[.int .i64 r1, .int .i64 r2, .int .i64 r3] 25)).heap.size := (by first | omega | (simp; done) | (simp; omega)); have Q3 : (w'.alloc (Obj.cells #[.int .i64 r1, .int .i64 r2, .int .i64 r3] 25)).cell? ⟨w'.heap.size, 0, none⟩ = some (.int .i64 r1) := (by go_simp); have Q4 : (w'.alloc (Obj.cells #[.int .i64 r1, .int .i64 r2, .int .i64 r3] 25)).cell? ⟨w'.heap.size, 1, none⟩ = some (.int .i64 r2) := (by go_simp); have Q5 : (w'.alloc (Obj.cells #[.int .i64 r1, .int .i64 r2, .int .i64 r3] 25)).cell? ⟨w'.heap.size, 2, none⟩ = some (.int .i64 r3) := (by go_simp); have Z6 : w'.heap.size < (w'.alloc (Obj.cells #[.int .i64 r1, .int .i64 r2, .int .i64 r3] 25)).heap.size := (by first | omega | (simp; done) | (simp; omega)); have BB : Below w.heap.size w (w'.alloc (Obj.cells #[.int .i64 r1, .int .i64 r2, .int .i64 r3] 25)) := (by go_grown); generalize w'.alloc (Obj.cells #[.int .i64 r1, .int .i64 r2, .int .i64 r3] 25) = w2 at *)
        generalize w'.heap.size = g2 at *
        clear hc hf hb kv kE ka hB
        go_wp2
        refine bodyPost_ret (by simp [results, Tryd.results11, go_sem, *]; try rfl) rfl ?_
        exact ⟨rfl, by go_grown⟩

set_option maxHeartbeats 1000000 in
theorem spec_DoorAfter (p k r ev : Int) (w : World) : Calls Tryd.prog 16 #[.agg #[.int .i64 p, .int .i64 k, .int .i64 r], .int .i64 ev] w
    fun e' w' => e' = .returned (.tuple #[(doorV ⟨p, k, r⟩ ev).val, .int .i64 (doorCode ⟨p, k, r⟩ ev)]) ∧ Below w.heap.size w w' := by
  have kv := fun W h h' h'' => spec_l14Ok w.heap.size 0 p k r W h h' h''
  have kE := fun W => spec_l14Event ev W
  cases h1 : validDoor p k r
  · obtain ⟨e1, e2⟩ := door_1 (d := ⟨p, k, r⟩) (ev := ev) h1
    rw [e1, e2]
    clear e1 e2
    rw [h1] at kv
    go_enter Tryd.func16, Tryd.ntmps16
    go_wp2_with (first | (go_at_call 37; refine (kv _ (by go_cell) (by go_cell) (by go_cell)).mono ?_; rintro e' w' ⟨rfl, rfl⟩) | (go_at_call 44; (with_reducible refine (kE _).mono ?_); rintro e w' ⟨rfl, rfl⟩))
    refine bodyPost_ret (by simp [results, Tryd.results16, go_sem, *]; try rfl) rfl ?_
    exact ⟨rfl, by go_grown⟩
  · rw [h1] at kv
    cases h2 : inB ev 1 4
    · obtain ⟨e1, e2⟩ := door_2 (d := ⟨p, k, r⟩) (ev := ev) h1 h2
      rw [e1, e2]
      clear e1 e2
      rw [h2] at kE
      go_enter Tryd.func16, Tryd.ntmps16
      go_wp2_with (first | (go_at_call 37; refine (kv _ (by go_cell) (by go_cell) (by go_cell)).mono ?_; rintro e' w' ⟨rfl, rfl⟩) | (go_at_call 44; (with_reducible refine (kE _).mono ?_); rintro e w' ⟨rfl, rfl⟩))
      refine bodyPost_ret (by simp [results, Tryd.results16, go_sem, *]; try rfl) rfl ?_
      exact ⟨rfl, by go_grown⟩
    · rw [h2] at kE
      obtain ⟨g1, g2⟩ := inB_true.1 h2
      have ka := fun W => spec_l14After p k r ev W (Dr.ok_fits h1) g1 g2
      cases h3 : doorMay ⟨p, k, r⟩ ev
      · obtain ⟨e1, e2⟩ := door_6 (d := ⟨p, k, r⟩) (ev := ev) h1 h2 h3
        rw [e1, e2]
        rw [h3] at ka
        clear e1 e2 h1 h2 h3 g1 g2
        generalize doorStep ⟨p, k, r⟩ ev = R at *
        obtain ⟨r1, r2, r3⟩ := R
        simp only [Dr.val] at *
        go_enter Tryd.func16, Tryd.ntmps16
        go_upto_region 7 with (first | (go_at_call 37; refine (kv _ (by go_cell) (by go_cell) (by go_cell)).mono ?_; rintro e' w' ⟨rfl, rfl⟩) | (go_at_call 44; (with_reducible refine (kE _).mono ?_); rintro e w' ⟨rfl, rfl⟩) | (go_at_call 45; (with_reducible refine (ka _).mono ?_); rintro e w' ⟨rfl, hb⟩; obtain ⟨hc, hf⟩ := bcell hb; have hz : w.heap.size < w'.heap.size := (by have := hb.size; (try simp at this); omega); have hz1 : w.heap.size + 1 < w'.heap.size := (by have := hb.size; (try simp at this); omega); have hB : Below w.heap.size w w' := Below.trans (by go_grown) (hb.mono (by go_size))))
        (have F0 : (w'.alloc (Obj.cells #[.int .i64 r1, .int .i64 r2, .int .i64 r3] 25)).frozen? ⟨w.heap.size + 1, 0, none⟩ = false := (by go_simp); have Q0 : (w'.alloc (Obj.cells #[.int .i64 r1, .int .i64 r2, .int .i64 r3] 25)).cell? ⟨w.heap.size + 1, 0, none⟩ = some (.int .i64 0) := (by go_simp); have F1 : (w'.alloc (Obj.cells #[.int .i64 r1, .int .i64 r2, .int .i64 r3] 25)).frozen? ⟨w.heap.size + 1, 1, none⟩ = false := (by go_simp); have Q1 : (w'.alloc (Obj.cells #[.int .i64 r1, .int .i64 r2, .int .i64 r3] 25)).cell? ⟨w.heap.size + 1, 1, none⟩ = some (.int .i64 0) := (by go_simp); have F2 : (w'.alloc (Obj.cells #[.int .i64 r1, .int .i64 r2, .int .i64 r3] 25)).frozen? ⟨w.heap.size + 1, 2, none⟩ = false := (by go_simp); have Q2 : (w'.alloc (Obj.cells #[.int .i64 r1, .int .i64 r2, .int .i64 r3] 25)).cell? ⟨w.heap.size + 1, 2, none⟩ = some (.int .i64 0) := (by go_simp); have Z3 : w.heap.size + 1 < (w'.alloc (Obj.cells #[.int .i64 r1, .int .i64 r2, .int .i64 r3] 25)).heap.size := (by first | omega | (simp; done) | (simp; omega)); have BB : Below w.heap.size w (w'.alloc (Obj.cells #[.int .i64 r1, .int .i64 r2, .int .i64 r3] 25)) := (by go_grown); generalize w'.alloc (Obj.cells #[.int .i64 r1, .int .i64 r2, .int .i64 r3] 25) = w2 at *)
        clear hc hf hb kv kE ka hz hz1 hB
        go_wp2
        refine bodyPost_ret (by simp [results, Tryd.results16, go_sem, *]; try rfl) rfl ?_
        exact ⟨rfl, by go_grown⟩
      · obtain ⟨e1, e2⟩ := door_0 (d := ⟨p, k, r⟩) (ev := ev) h1 h2 h3
        rw [e1, e2]
        rw [h3] at ka
        clear e1 e2 h1 h2 h3 g1
        generalize doorStep ⟨p, k, r⟩ ev = R at *
        obtain ⟨r1, r2, r3⟩ := R
        simp only [Dr.val] at *
        go_enter Tryd.func16, Tryd.ntmps16
        go_upto_region 8 with (first | (go_at_call 37; refine (kv _ (by go_cell) (by go_cell) (by go_cell)).mono ?_; rintro e' w' ⟨rfl, rfl⟩) | (go_at_call 44; (with_reducible refine (kE _).mono ?_); rintro e w' ⟨rfl, rfl⟩) | (go_at_call 45; (with_reducible refine (ka _).mono ?_); rintro e w' ⟨rfl, hb⟩; obtain ⟨hc, hf⟩ := bcell hb; have hz : w.heap.size < w'.heap.size := (by have := hb.size; (try simp at this); omega); have hz1 : w.heap.size + 1 < w'.heap.size := (by have := hb.size; (try simp at this); omega); have hB : Below w.heap.size w w' := Below.trans (by go_grown) (hb.mono (by go_size))))
        (have F0 : (w'.alloc (Obj.cells #[.int .i64 r1, .int .i64 r2, .int .i64 r3] 25)).frozen? ⟨w.heap.size + 1, 0, none⟩ = false := (by go_simp); have Q0 : (w'.alloc (Obj.cells #[.int .i64 r1, .int .i64 r2, .int .i64 r3] 25)).cell? ⟨w.heap.size + 1, 0, none⟩ = some (.int .i64 0) := (by go_simp); have F1 : (w'.alloc (Obj.cells #[.int .i64 r1, .int .i64 r2, .int .i64 r3] 25)).frozen? ⟨w.heap.size + 1, 1, none⟩ = false := (by go_simp); have Q1 : (w'.alloc (Obj.cells #[.int .i64 r1, .int .i64 r2, .int .i64 r3] 25)).cell? ⟨w.heap.size + 1, 1, none⟩ = some (.int .i64 0) := (by go_simp); have F2 : (w'.alloc (Obj.cells #[.int .i64 r1, .int .i64 r2, .int .i64 r3] 25)).frozen? ⟨w.heap.size + 1, 2, none⟩ = false := (by go_simp); have Q2 : (w'.alloc (Obj.cells #[.int .i64 r1, .int .i64 r2, .int .i64 r3] 25)).cell? ⟨w.heap.size + 1, 2, none⟩ = some (.int .i64 0) := (by go_simp); have Z3 : w.heap.size + 1 < (w'.alloc (Obj.cells #[.int .i64 r1, .int .i64 r2, .int .i64 r3] 25)).heap.size := (by first | omega | (simp; done) | (simp; omega)); have Q3 : (w'.alloc (Obj.cells #[.int .i64 r1, .int .i64 r2, .int .i64 r3] 25)).cell? ⟨w'.heap.size, 0, none⟩ = some (.int .i64 r1) := (by go_simp); have Q4 : (w'.alloc (Obj.cells #[.int .i64 r1, .int .i64 r2, .int .i64 r3] 25)).cell? ⟨w'.heap.size, 1, none⟩ = some (.int .i64 r2) := (by go_simp); have Q5 : (w'.alloc (Obj.cells #[.int .i64 r1, .int .i64 r2, .int .i64 r3] 25)).cell? ⟨w'.heap.size, 2, none⟩ = some (.int .i64 r3) := (by go_simp); have Z6 : w'.heap.size < (w'.alloc (Obj.cells #[.int .i64 r1, .int .i64 r2, .int .i64 r3] 25)).heap.size := (by first | omega | (simp; done) | (simp; omega)); have BB : Below w.heap.size w (w'.alloc (Obj.cells #[.int .i64 r1, .int .i64 r2, .int .i64 r3] 25)) := (by go_grown); generalize w'.alloc (Obj.cells #[.int .i64 r1, .int .i64 r2, .int .i64 r3] 25) = w2 at *)
        generalize w'.heap.size = g2 at *
        clear hc hf hb kv kE ka hB
        go_wp2
        refine bodyPost_ret (by simp [results, Tryd.results16, go_sem, *]; try rfl) rfl ?_
        exact ⟨rfl, by go_grown⟩

end Go.Proofs.YtdhjnpjemaofoaaDoor
