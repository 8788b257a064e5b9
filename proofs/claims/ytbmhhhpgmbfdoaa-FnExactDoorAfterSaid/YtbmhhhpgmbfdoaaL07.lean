/-
  The walks of laws: a door after an event.
-/
import Derived.Test.YtbmhhhpgmbfdoaaKV
import Derived.Test.YtbmhhhpgmbfdoaaQt
import Derived.Test.YtbmhhhpgmbfdoaaKX
import Derived.Deep.DeepCutAuto
namespace Go.Proofs.Ytbmhhhpgmbfdoaa
open Go.RowKit
set_option linter.unusedVariables false
set_option linter.unusedSimpArgs false


set_option maxHeartbeats 4000000 in
theorem law_FnExactDoorAfter (p : Int) (k : Int) (r : Int) (ev : Int) (w : World) : Calls Try.prog 13 #[.agg #[.int .i64 p, .int .i64 k, .int .i64 r], .int .i64 ev] w fun e' w' => e' = .returned (.bool true) ∧ Below w.heap.size w w' := by
  have cs := fun W => spec_DoorAfter p k r ev W
  have ci := fun W => impl_DoorAfter p k r ev W
  generalize doorV ⟨p, k, r⟩ ev = R at *
  generalize doorCode ⟨p, k, r⟩ ev = C0 at *
  obtain ⟨r0, r1, r2⟩ := R
  simp only [Dr.val] at *
  go_enter Try.func13, Try.ntmps13
  go_upto_region 2 with (first | (go_at_call 49; (with_reducible refine (laws_toDoor_x _ _ _ _).mono ?_); rintro e w' ⟨rfl, rfl⟩) | (go_at_call 51; (with_reducible refine (cs _).mono ?_); rintro e w' ⟨rfl, hb⟩; obtain ⟨hc, hf⟩ := bcell hb; have hz : w.heap.size < w'.heap.size := (by have := hb.size; (try simp at this); omega); have hB : Below w.heap.size w w' := Below.trans (by go_grown) (hb.mono (by go_size))))
  (have Q0 : (w'.alloc (Obj.cells #[.int .i64 r0, .int .i64 r1, .int .i64 r2] 64)).cell? ⟨w.heap.size, 0, none⟩ = some (.int .i64 p) := (by go_simp); have Q1 : (w'.alloc (Obj.cells #[.int .i64 r0, .int .i64 r1, .int .i64 r2] 64)).cell? ⟨w.heap.size, 1, none⟩ = some (.int .i64 k) := (by go_simp); have Q2 : (w'.alloc (Obj.cells #[.int .i64 r0, .int .i64 r1, .int .i64 r2] 64)).cell? ⟨w.heap.size, 2, none⟩ = some (.int .i64 r) := (by go_simp); have Z3 : w.heap.size < (w'.alloc (Obj.cells #[.int .i64 r0, .int .i64 r1, .int .i64 r2] 64)).heap.size := (by first | omega | (simp; done) | (simp; omega)); have Q3 : (w'.alloc (Obj.cells #[.int .i64 r0, .int .i64 r1, .int .i64 r2] 64)).cell? ⟨w'.heap.size, 0, none⟩ = some (.int .i64 r0) := (by go_simp); have Q4 : (w'.alloc (Obj.cells #[.int .i64 r0, .int .i64 r1, .int .i64 r2] 64)).cell? ⟨w'.heap.size, 1, none⟩ = some (.int .i64 r1) := (by go_simp); have Q5 : (w'.alloc (Obj.cells #[.int .i64 r0, .int .i64 r1, .int .i64 r2] 64)).cell? ⟨w'.heap.size, 2, none⟩ = some (.int .i64 r2) := (by go_simp); have Z6 : w'.heap.size < (w'.alloc (Obj.cells #[.int .i64 r0, .int .i64 r1, .int .i64 r2] 64)).heap.size := (by first | omega | (simp; done) | (simp; omega)); have BB : Below w.heap.size w (w'.alloc (Obj.cells #[.int .i64 r0, .int .i64 r1, .int .i64 r2] 64)) := (by go_grown); generalize w'.alloc (Obj.cells #[.int .i64 r0, .int .i64 r1, .int .i64 r2] 64) = w2 at *)
  generalize w'.heap.size = g at *
  clear cs hc hf hb hB
  go_upto_region 3 with (first | (go_at_call 49; (with_reducible refine (laws_toDoor_x _ _ _ _).mono ?_); rintro e w' ⟨rfl, rfl⟩) | (go_at_call 52; (with_reducible refine (ci _).mono ?_); rintro e w' ⟨rfl, hb⟩; obtain ⟨hc, hf, hs⟩ := bkeep hb; have hz : w.heap.size < w'.heap.size := (by have := hb.size; (try simp at this); omega); have hB : Below w.heap.size w w' := Below.trans (by go_grown) (hb.mono (by go_size))))
  have hg : g < w'.heap.size := (by have := hb.size; (try simp at this); omega)
  have hg1 : g < w2.heap.size + 1 := (by omega)
  have hg2 : g < w2.heap.size + 1 + 1 := (by omega)
  have hg3 : g < w2.heap.size + 1 + 1 + 1 := (by omega)
  (have Q0 : (w'.alloc (Obj.cells #[.int .i64 r0, .int .i64 r1, .int .i64 r2] 64)).cell? ⟨g, 0, none⟩ = some (.int .i64 r0) := (by go_simp); have Q1 : (w'.alloc (Obj.cells #[.int .i64 r0, .int .i64 r1, .int .i64 r2] 64)).cell? ⟨g, 1, none⟩ = some (.int .i64 r1) := (by go_simp); have Q2 : (w'.alloc (Obj.cells #[.int .i64 r0, .int .i64 r1, .int .i64 r2] 64)).cell? ⟨g, 2, none⟩ = some (.int .i64 r2) := (by go_simp); have Z3 : g < (w'.alloc (Obj.cells #[.int .i64 r0, .int .i64 r1, .int .i64 r2] 64)).heap.size := (by first | omega | (simp; done) | (simp; omega)); have Q3 : (w'.alloc (Obj.cells #[.int .i64 r0, .int .i64 r1, .int .i64 r2] 64)).cell? ⟨w'.heap.size, 0, none⟩ = some (.int .i64 r0) := (by go_simp); have Q4 : (w'.alloc (Obj.cells #[.int .i64 r0, .int .i64 r1, .int .i64 r2] 64)).cell? ⟨w'.heap.size, 1, none⟩ = some (.int .i64 r1) := (by go_simp); have Q5 : (w'.alloc (Obj.cells #[.int .i64 r0, .int .i64 r1, .int .i64 r2] 64)).cell? ⟨w'.heap.size, 2, none⟩ = some (.int .i64 r2) := (by go_simp); have Z6 : w'.heap.size < (w'.alloc (Obj.cells #[.int .i64 r0, .int .i64 r1, .int .i64 r2] 64)).heap.size := (by first | omega | (simp; done) | (simp; omega)); have BB : Below w.heap.size w (w'.alloc (Obj.cells #[.int .i64 r0, .int .i64 r1, .int .i64 r2] 64)) := (by go_grown); generalize w'.alloc (Obj.cells #[.int .i64 r0, .int .i64 r1, .int .i64 r2] 64) = w2 at *)
  generalize w'.heap.size = g' at *
  clear ci hc hf hs hb hB hg
  go_wp2_with (go_at_call 53; refine (laws_eqDoor_same _ _ _ _).mono ?_; rintro e' w' ⟨rfl, hb⟩; have hB : Below w.heap.size w w' := BB.trans (hb.mono BB.size))
  go_returns
  exact ⟨rfl, by go_grown⟩

end Go.Proofs.Ytbmhhhpgmbfdoaa
