/-
  The walks of laws: states that are not safe.
-/
import Derived.Test.YtjfpiadjbhnljaaKS3
import Derived.Test.YtjfpiadjbhnljaaQt
import Derived.Test.YtjfpiadjbhnljaaKX
import Derived.Deep.DeepCutAuto
namespace Go.Proofs.Ytjfpiadjbhnljaa
open Go.RowKit
set_option linter.unusedVariables false
set_option linter.unusedSimpArgs false


set_option maxHeartbeats 4000000 in
theorem law_FnExactFirstUnsafeState (m : Int) (o : Bool) (a : Bool) (b : Bool) (e : Bool) (w : World) : Calls Try.prog 5 #[.agg #[.int .i64 m, .bool o, .bool a, .bool b, .bool e]] w fun e' w' => e' = .returned (.bool true) ∧ Below w.heap.size w w' := by
  have cs := fun W => spec_FirstUnsafeState m o a b e W
  have ci := fun W => impl_FirstUnsafeState m o a b e W
  generalize unsafeS ⟨m, o, a, b, e⟩ = R at *
  generalize unsafeC ⟨m, o, a, b, e⟩ = C0 at *
  obtain ⟨r0, r1, r2, r3, r4⟩ := R
  simp only [St.val] at *
  go_enter Try.func5, Try.ntmps5
  go_upto_region 2 with (first | (go_at_call 11; (with_reducible refine (laws_toState_x _ _ _ _ _ _).mono ?_); rintro e w' ⟨rfl, rfl⟩) | (go_at_call 13; (with_reducible refine (cs _).mono ?_); rintro e w' ⟨rfl, hb⟩; obtain ⟨hc, hf⟩ := bcell hb; have hz : w.heap.size < w'.heap.size := (by have := hb.size; (try simp at this); omega); have hB : Below w.heap.size w w' := Below.trans (by go_grown) (hb.mono (by go_size))))
  (have Q0 : (w'.alloc (Obj.cells #[.int .i64 r0, .bool r1, .bool r2, .bool r3, .bool r4] 23)).cell? ⟨w.heap.size, 0, none⟩ = some (.int .i64 m) := (by go_simp); have Q1 : (w'.alloc (Obj.cells #[.int .i64 r0, .bool r1, .bool r2, .bool r3, .bool r4] 23)).cell? ⟨w.heap.size, 1, none⟩ = some (.bool o) := (by go_simp); have Q2 : (w'.alloc (Obj.cells #[.int .i64 r0, .bool r1, .bool r2, .bool r3, .bool r4] 23)).cell? ⟨w.heap.size, 2, none⟩ = some (.bool a) := (by go_simp); have Q3 : (w'.alloc (Obj.cells #[.int .i64 r0, .bool r1, .bool r2, .bool r3, .bool r4] 23)).cell? ⟨w.heap.size, 3, none⟩ = some (.bool b) := (by go_simp); have Q4 : (w'.alloc (Obj.cells #[.int .i64 r0, .bool r1, .bool r2, .bool r3, .bool r4] 23)).cell? ⟨w.heap.size, 4, none⟩ = some (.bool e) := (by go_simp); have Z5 : w.heap.size < (w'.alloc (Obj.cells #[.int .i64 r0, .bool r1, .bool r2, .bool r3, .bool r4] 23)).heap.size := (by first | omega | (simp; done) | (simp; omega)); have Q5 : (w'.alloc (Obj.cells #[.int .i64 r0, .bool r1, .bool r2, .bool r3, .bool r4] 23)).cell? ⟨w'.heap.size, 0, none⟩ = some (.int .i64 r0) := (by go_simp); have Q6 : (w'.alloc (Obj.cells #[.int .i64 r0, .bool r1, .bool r2, .bool r3, .bool r4] 23)).cell? ⟨w'.heap.size, 1, none⟩ = some (.bool r1) := (by go_simp); have Q7 : (w'.alloc (Obj.cells #[.int .i64 r0, .bool r1, .bool r2, .bool r3, .bool r4] 23)).cell? ⟨w'.heap.size, 2, none⟩ = some (.bool r2) := (by go_simp); have Q8 : (w'.alloc (Obj.cells #[.int .i64 r0, .bool r1, .bool r2, .bool r3, .bool r4] 23)).cell? ⟨w'.heap.size, 3, none⟩ = some (.bool r3) := (by go_simp); have Q9 : (w'.alloc (Obj.cells #[.int .i64 r0, .bool r1, .bool r2, .bool r3, .bool r4] 23)).cell? ⟨w'.heap.size, 4, none⟩ = some (.bool r4) := (by go_simp); have Z10 : w'.heap.size < (w'.alloc (Obj.cells #[.int .i64 r0, .bool r1, .bool r2, .bool r3, .bool r4] 23)).heap.size := (by first | omega | (simp; done) | (simp; omega)); have BB : Below w.heap.size w (w'.alloc (Obj.cells #[.int .i64 r0, .bool r1, .bool r2, .bool r3, .bool r4] 23)) := (by go_grown); generalize w'.alloc (Obj.cells #[.int .i64 r0, .bool r1, .bool r2, .bool r3, .bool r4] 23) = w2 at *)
  generalize w'.heap.size = g at *
  clear cs hc hf hb hB
  go_upto_region 3 with (first | (go_at_call 11; (with_reducible refine (laws_toState_x _ _ _ _ _ _).mono ?_); rintro e w' ⟨rfl, rfl⟩) | (go_at_call 14; (with_reducible refine (ci _).mono ?_); rintro e w' ⟨rfl, hb⟩; obtain ⟨hc, hf, hs⟩ := bkeep hb; have hz : w.heap.size < w'.heap.size := (by have := hb.size; (try simp at this); omega); have hB : Below w.heap.size w w' := Below.trans (by go_grown) (hb.mono (by go_size))))
  have hg : g < w'.heap.size := (by have := hb.size; (try simp at this); omega)
  have hg1 : g < w2.heap.size + 1 := (by omega)
  have hg2 : g < w2.heap.size + 1 + 1 := (by omega)
  have hg3 : g < w2.heap.size + 1 + 1 + 1 := (by omega)
  (have Q0 : (w'.alloc (Obj.cells #[.int .i64 r0, .bool r1, .bool r2, .bool r3, .bool r4] 23)).cell? ⟨g, 0, none⟩ = some (.int .i64 r0) := (by go_simp); have Q1 : (w'.alloc (Obj.cells #[.int .i64 r0, .bool r1, .bool r2, .bool r3, .bool r4] 23)).cell? ⟨g, 1, none⟩ = some (.bool r1) := (by go_simp); have Q2 : (w'.alloc (Obj.cells #[.int .i64 r0, .bool r1, .bool r2, .bool r3, .bool r4] 23)).cell? ⟨g, 2, none⟩ = some (.bool r2) := (by go_simp); have Q3 : (w'.alloc (Obj.cells #[.int .i64 r0, .bool r1, .bool r2, .bool r3, .bool r4] 23)).cell? ⟨g, 3, none⟩ = some (.bool r3) := (by go_simp); have Q4 : (w'.alloc (Obj.cells #[.int .i64 r0, .bool r1, .bool r2, .bool r3, .bool r4] 23)).cell? ⟨g, 4, none⟩ = some (.bool r4) := (by go_simp); have Z5 : g < (w'.alloc (Obj.cells #[.int .i64 r0, .bool r1, .bool r2, .bool r3, .bool r4] 23)).heap.size := (by first | omega | (simp; done) | (simp; omega)); have Q5 : (w'.alloc (Obj.cells #[.int .i64 r0, .bool r1, .bool r2, .bool r3, .bool r4] 23)).cell? ⟨w'.heap.size, 0, none⟩ = some (.int .i64 r0) := (by go_simp); have Q6 : (w'.alloc (Obj.cells #[.int .i64 r0, .bool r1, .bool r2, .bool r3, .bool r4] 23)).cell? ⟨w'.heap.size, 1, none⟩ = some (.bool r1) := (by go_simp); have Q7 : (w'.alloc (Obj.cells #[.int .i64 r0, .bool r1, .bool r2, .bool r3, .bool r4] 23)).cell? ⟨w'.heap.size, 2, none⟩ = some (.bool r2) := (by go_simp); have Q8 : (w'.alloc (Obj.cells #[.int .i64 r0, .bool r1, .bool r2, .bool r3, .bool r4] 23)).cell? ⟨w'.heap.size, 3, none⟩ = some (.bool r3) := (by go_simp); have Q9 : (w'.alloc (Obj.cells #[.int .i64 r0, .bool r1, .bool r2, .bool r3, .bool r4] 23)).cell? ⟨w'.heap.size, 4, none⟩ = some (.bool r4) := (by go_simp); have Z10 : w'.heap.size < (w'.alloc (Obj.cells #[.int .i64 r0, .bool r1, .bool r2, .bool r3, .bool r4] 23)).heap.size := (by first | omega | (simp; done) | (simp; omega)); have BB : Below w.heap.size w (w'.alloc (Obj.cells #[.int .i64 r0, .bool r1, .bool r2, .bool r3, .bool r4] 23)) := (by go_grown); generalize w'.alloc (Obj.cells #[.int .i64 r0, .bool r1, .bool r2, .bool r3, .bool r4] 23) = w2 at *)
  generalize w'.heap.size = g' at *
  clear ci hc hf hs hb hB hg
  go_wp2_with (go_at_call 9; refine (laws_eqState_same _ _ _ _ _ _).mono ?_; rintro e' w' ⟨rfl, hb⟩; have hB : Below w.heap.size w w' := BB.trans (hb.mono BB.size))
  go_returns
  exact ⟨rfl, by go_grown⟩

set_option maxHeartbeats 4000000 in
theorem law_FnExactAllSafe (m : Int) (o : Bool) (a : Bool) (b : Bool) (e : Bool) (w : World) : Calls Try.prog 4 #[.agg #[.int .i64 m, .bool o, .bool a, .bool b, .bool e]] w fun e' w' => e' = .returned (.bool true) ∧ Below w.heap.size w w' := by
  have cs := fun W => spec_AllSafe m o a b e W
  have ci := fun W => impl_AllSafe m o a b e W
  generalize allSafeB ⟨m, o, a, b, e⟩ = R at *
  go_enter Try.func4, Try.ntmps4
  go_wp2_with (first | (go_at_call 11; (with_reducible refine (laws_toState_x _ _ _ _ _ _).mono ?_); rintro e w' ⟨rfl, rfl⟩) | (go_at_call 10; (with_reducible refine (cs _).mono ?_); rintro e w' ⟨rfl, hb⟩; obtain ⟨hc, hf⟩ := bcell hb; have hz : w.heap.size < w'.heap.size := (by have := hb.size; (try simp at this); omega); have hB : Below w.heap.size w w' := Below.trans (by go_grown) (hb.mono (by go_size))) | (go_at_call 12; (with_reducible refine (ci _).mono ?_); rintro e w' ⟨rfl, hb⟩; obtain ⟨hc, hf⟩ := bcell hb; have hz : w.heap.size < w'.heap.size := (by have := hb.size; (try simp at this); omega); have hB : Below w.heap.size w w' := Below.trans (by go_grown) (hb.mono (by go_size))))
  go_returns
  exact ⟨rfl, by go_grown⟩

end Go.Proofs.Ytjfpiadjbhnljaa
