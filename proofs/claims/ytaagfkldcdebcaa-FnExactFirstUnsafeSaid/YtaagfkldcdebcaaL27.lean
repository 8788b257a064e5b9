/-
  The walk of a law: the first unsafe second of a ride.
-/
import Derived.Test.YtaagfkldcdebcaaKP3
import Derived.Test.YtaagfkldcdebcaaKL3
import Derived.Test.YtaagfkldcdebcaaKF
import Derived.Test.YtaagfkldcdebcaaKX
import Derived.Deep.DeepCutAuto
namespace Go.Proofs.Ytaagfkldcdebcaa
open Go.RowKit
set_option linter.unusedVariables false
set_option linter.unusedSimpArgs false


theorem laws_toBrake_b (d f : Int) (w : World) : Calls Try.prog 11 #[.agg #[.int .i64 d, .int .i64 f]] w fun e w' => e = .returned (.agg #[.int .i64 d, .int .i64 f]) ∧ Below w.heap.size w w' :=
  (laws_toBrake_x d f w).mono fun _ _ ⟨h, hw⟩ => ⟨h, by rw [← hw]; go_grown⟩

theorem laws_toProfile_b (a r c y : Int) (w : World) : Calls Try.prog 17 #[.agg #[.int .i64 a, .int .i64 r, .int .i64 c, .int .i64 y]] w fun e w' => e = .returned (.agg #[.int .i64 a, .int .i64 r, .int .i64 c, .int .i64 y]) ∧ Below w.heap.size w w' :=
  (laws_toProfile_x a r c y w).mono fun _ _ ⟨h, hw⟩ => ⟨h, by rw [← hw]; go_grown⟩


set_option maxHeartbeats 4000000 in
theorem law_FnExactFirstUnsafe (a0 : Option Addr) (n0 c0 : Nat) (L0 G0 : Nat → Int) (lf lu d f pa pr pc py : Int) (down : Bool) (w : World) (hz0 : CellsIn 0 w.heap.size w a0 (2 * n0) (psV L0 G0)) (hmax0 : n0 ≤ 9223372036854775807) :
    Calls Try.prog 5 #[.agg #[.slice a0 n0 c0, .int .i64 lf, .int .i64 lu], .agg #[.int .i64 d, .int .i64 f], .agg #[.int .i64 pa, .int .i64 pr, .int .i64 pc, .int .i64 py], .bool down] w fun e w' => e = .returned (.bool true) ∧ Below w.heap.size w w' := by
  by_cases hn0 : n0 ≤ 1048576
  · have cs := fun A C W h => spec_FirstUnsafe A n0 C L0 G0 lf lu d f pa pr pc py down W h hn0
    have ci := fun A C W h => impl_FirstUnsafe A n0 C L0 G0 lf lu d f pa pr pc py down W h hn0
    generalize firstV L0 G0 n0 lf lu d f pa pr pc py down = r0 at *
    generalize firstC L0 G0 n0 lf lu d f pa pr pc py down = r1 at *
    go_enter Try.func5, Try.ntmps5
    obtain ⟨wb, hwb⟩ : ∃ wb, (((w.alloc (Obj.cells #[.slice a0 n0 c0, .int .i64 lf, .int .i64 lu] 24)).alloc (Obj.cells #[.int .i64 d, .int .i64 f] 26)).alloc (Obj.cells #[.int .i64 pa, .int .i64 pr, .int .i64 pc, .int .i64 py] 40)) = wb := ⟨_, rfl⟩
    have bel : Below w.heap.size w wb := by rw [← hwb]; go_grown
    have x0 : OwnIn (w.heap.size) (w.heap.size + 1) wb (some ⟨w.heap.size, 0, none⟩) 3 (fun q => (#[.slice a0 n0 c0, .int .i64 lf, .int .i64 lu] : Array Value)[q]?.getD (.int .i64 0)) := by
      rw [← hwb]
      have h := own_new (lo := w.heap.size) (hi := w.heap.size + 1) w #[.slice a0 n0 c0, .int .i64 lf, .int .i64 lu] 24 (by simp) (by simp)
      have h2 := h.below (by go_grown : Below _ (w.alloc (Obj.cells #[.slice a0 n0 c0, .int .i64 lf, .int .i64 lu] 24)) (((w.alloc (Obj.cells #[.slice a0 n0 c0, .int .i64 lf, .int .i64 lu] 24)).alloc (Obj.cells #[.int .i64 d, .int .i64 f] 26)).alloc (Obj.cells #[.int .i64 pa, .int .i64 pr, .int .i64 pc, .int .i64 py] 40)))
      simpa using h2
    have x1 : OwnIn (w.heap.size + 1) (w.heap.size + 1 + 1) wb (some ⟨w.heap.size + 1, 0, none⟩) 2 (fun q => (#[.int .i64 d, .int .i64 f] : Array Value)[q]?.getD (.int .i64 0)) := by
      rw [← hwb]
      have h := own_new (lo := w.heap.size + 1) (hi := w.heap.size + 1 + 1) (w.alloc (Obj.cells #[.slice a0 n0 c0, .int .i64 lf, .int .i64 lu] 24)) #[.int .i64 d, .int .i64 f] 26 (by simp) (by simp)
      have h2 := h.below (by go_grown : Below _ ((w.alloc (Obj.cells #[.slice a0 n0 c0, .int .i64 lf, .int .i64 lu] 24)).alloc (Obj.cells #[.int .i64 d, .int .i64 f] 26)) (((w.alloc (Obj.cells #[.slice a0 n0 c0, .int .i64 lf, .int .i64 lu] 24)).alloc (Obj.cells #[.int .i64 d, .int .i64 f] 26)).alloc (Obj.cells #[.int .i64 pa, .int .i64 pr, .int .i64 pc, .int .i64 py] 40)))
      simpa using h2
    have x2 : OwnIn (w.heap.size + 1 + 1) (w.heap.size + 1 + 1 + 1) wb (some ⟨w.heap.size + 1 + 1, 0, none⟩) 4 (fun q => (#[.int .i64 pa, .int .i64 pr, .int .i64 pc, .int .i64 py] : Array Value)[q]?.getD (.int .i64 0)) := by
      rw [← hwb]
      have h := own_new (lo := w.heap.size + 1 + 1) (hi := w.heap.size + 1 + 1 + 1) ((w.alloc (Obj.cells #[.slice a0 n0 c0, .int .i64 lf, .int .i64 lu] 24)).alloc (Obj.cells #[.int .i64 d, .int .i64 f] 26)) #[.int .i64 pa, .int .i64 pr, .int .i64 pc, .int .i64 py] 40 (by simp) (by simp)
      have h2 := h
      simpa using h2
    have f0 := hz0.below bel
    have HWB := Lib.hid hwb
    have hsb : w.heap.size + 1 + 1 < wb.heap.size := x2.block (by decide)
    clear hwb hz0
    go_wp2_with fail
    rw [HWB.out]
    refine (laws_szTrack_ok a0 n0 c0 lf lu _ hn0).mono ?_
    rintro e w1 ⟨rfl, p⟩
    have sz := p.size
    replace x0 := x0.below p
    replace x1 := x1.below p
    replace x2 := x2.below p
    replace f0 := f0.below p
    have bel := bel.trans (p.mono bel.size)
    clear p
    have q00 : w1.cell? ⟨w.heap.size, 0, none⟩ = some (.slice a0 n0 c0) := x0.at (show 0 < 3 by decide)
    have q01 : w1.cell? ⟨w.heap.size, 1, none⟩ = some (.int .i64 lf) := x0.at (show 1 < 3 by decide)
    have q02 : w1.cell? ⟨w.heap.size, 2, none⟩ = some (.int .i64 lu) := x0.at (show 2 < 3 by decide)
    have q10 : w1.cell? ⟨w.heap.size + 1, 0, none⟩ = some (.int .i64 d) := x1.at (show 0 < 2 by decide)
    have q11 : w1.cell? ⟨w.heap.size + 1, 1, none⟩ = some (.int .i64 f) := x1.at (show 1 < 2 by decide)
    have q20 : w1.cell? ⟨w.heap.size + 1 + 1, 0, none⟩ = some (.int .i64 pa) := x2.at (show 0 < 4 by decide)
    have q21 : w1.cell? ⟨w.heap.size + 1 + 1, 1, none⟩ = some (.int .i64 pr) := x2.at (show 1 < 4 by decide)
    have q22 : w1.cell? ⟨w.heap.size + 1 + 1, 2, none⟩ = some (.int .i64 pc) := x2.at (show 2 < 4 by decide)
    have q23 : w1.cell? ⟨w.heap.size + 1 + 1, 3, none⟩ = some (.int .i64 py) := x2.at (show 3 < 4 by decide)
    go_upto_region 5 with fail
    go_cut [4, 5, 6, 8, 10, 11] (fun p0 p1 p2 r u0 u1 W => p0 = .pointer (some ⟨w.heap.size, 0, none⟩) ∧ p1 = .pointer (some ⟨w.heap.size + 1, 0, none⟩) ∧ p2 = .pointer (some ⟨w.heap.size + 1 + 1, 0, none⟩) ∧ r = .bool false ∧ u0 = .int .i64 r0 ∧ u1 = .int .i64 r1 ∧ Below w1.heap.size w1 W)
    case first =>
      go_region_with (first | (go_at_call 10; (with_reducible refine (laws_toTrack_in a0 n0 c0 L0 G0 lf lu _ (f0.below (Below.drew (Below.refl _ _))) hn0).mono ?_); rintro e w2 ⟨d1, e1, rfl, o1, p⟩; replace p : Below w1.heap.size w1 w2 := Below.trans (Below.drew (Below.refl _ _)) p; have sz := p.size; replace x0 := x0.below p; replace x1 := x1.below p; replace x2 := x2.below p; replace f0 := f0.below p; have bel := bel.trans (p.mono bel.size); have pp := p; clear p; have q00 : w2.cell? ⟨w.heap.size, 0, none⟩ = some (.slice a0 n0 c0) := x0.at (show 0 < 3 by decide); have q01 : w2.cell? ⟨w.heap.size, 1, none⟩ = some (.int .i64 lf) := x0.at (show 1 < 3 by decide); have q02 : w2.cell? ⟨w.heap.size, 2, none⟩ = some (.int .i64 lu) := x0.at (show 2 < 3 by decide); have q10 : w2.cell? ⟨w.heap.size + 1, 0, none⟩ = some (.int .i64 d) := x1.at (show 0 < 2 by decide); have q11 : w2.cell? ⟨w.heap.size + 1, 1, none⟩ = some (.int .i64 f) := x1.at (show 1 < 2 by decide); have q20 : w2.cell? ⟨w.heap.size + 1 + 1, 0, none⟩ = some (.int .i64 pa) := x2.at (show 0 < 4 by decide); have q21 : w2.cell? ⟨w.heap.size + 1 + 1, 1, none⟩ = some (.int .i64 pr) := x2.at (show 1 < 4 by decide); have q22 : w2.cell? ⟨w.heap.size + 1 + 1, 2, none⟩ = some (.int .i64 pc) := x2.at (show 2 < 4 by decide); have q23 : w2.cell? ⟨w.heap.size + 1 + 1, 3, none⟩ = some (.int .i64 py) := x2.at (show 3 < 4 by decide); have bel2 : Below w1.heap.size w1 w2 := pp) | (go_at_call 11; (with_reducible refine (laws_toBrake_b d f _).mono ?_); rintro e w3 ⟨rfl, p⟩; have sz := p.size; replace x0 := x0.below p; replace x1 := x1.below p; replace x2 := x2.below p; replace f0 := f0.below p; replace o1 := o1.below p; have bel := bel.trans (p.mono bel.size); have pp := p; clear p; have q00 : w3.cell? ⟨w.heap.size, 0, none⟩ = some (.slice a0 n0 c0) := x0.at (show 0 < 3 by decide); have q01 : w3.cell? ⟨w.heap.size, 1, none⟩ = some (.int .i64 lf) := x0.at (show 1 < 3 by decide); have q02 : w3.cell? ⟨w.heap.size, 2, none⟩ = some (.int .i64 lu) := x0.at (show 2 < 3 by decide); have q10 : w3.cell? ⟨w.heap.size + 1, 0, none⟩ = some (.int .i64 d) := x1.at (show 0 < 2 by decide); have q11 : w3.cell? ⟨w.heap.size + 1, 1, none⟩ = some (.int .i64 f) := x1.at (show 1 < 2 by decide); have q20 : w3.cell? ⟨w.heap.size + 1 + 1, 0, none⟩ = some (.int .i64 pa) := x2.at (show 0 < 4 by decide); have q21 : w3.cell? ⟨w.heap.size + 1 + 1, 1, none⟩ = some (.int .i64 pr) := x2.at (show 1 < 4 by decide); have q22 : w3.cell? ⟨w.heap.size + 1 + 1, 2, none⟩ = some (.int .i64 pc) := x2.at (show 2 < 4 by decide); have q23 : w3.cell? ⟨w.heap.size + 1 + 1, 3, none⟩ = some (.int .i64 py) := x2.at (show 3 < 4 by decide); have bel3 := bel2.trans (pp.mono bel2.size)) | (go_at_call 17; (with_reducible refine (laws_toProfile_b pa pr pc py _).mono ?_); rintro e w3p ⟨rfl, p⟩; have sz := p.size; replace x0 := x0.below p; replace x1 := x1.below p; replace x2 := x2.below p; replace f0 := f0.below p; replace o1 := o1.below p; have bel := bel.trans (p.mono bel.size); have pp := p; clear p; have q00 : w3p.cell? ⟨w.heap.size, 0, none⟩ = some (.slice a0 n0 c0) := x0.at (show 0 < 3 by decide); have q01 : w3p.cell? ⟨w.heap.size, 1, none⟩ = some (.int .i64 lf) := x0.at (show 1 < 3 by decide); have q02 : w3p.cell? ⟨w.heap.size, 2, none⟩ = some (.int .i64 lu) := x0.at (show 2 < 3 by decide); have q10 : w3p.cell? ⟨w.heap.size + 1, 0, none⟩ = some (.int .i64 d) := x1.at (show 0 < 2 by decide); have q11 : w3p.cell? ⟨w.heap.size + 1, 1, none⟩ = some (.int .i64 f) := x1.at (show 1 < 2 by decide); have q20 : w3p.cell? ⟨w.heap.size + 1 + 1, 0, none⟩ = some (.int .i64 pa) := x2.at (show 0 < 4 by decide); have q21 : w3p.cell? ⟨w.heap.size + 1 + 1, 1, none⟩ = some (.int .i64 pr) := x2.at (show 1 < 4 by decide); have q22 : w3p.cell? ⟨w.heap.size + 1 + 1, 2, none⟩ = some (.int .i64 pc) := x2.at (show 2 < 4 by decide); have q23 : w3p.cell? ⟨w.heap.size + 1 + 1, 3, none⟩ = some (.int .i64 py) := x2.at (show 3 < 4 by decide); have bel3 := bel3.trans (pp.mono bel3.size)) | (go_at_call 16; (with_reducible refine (cs _ _ _ o1.cells.pass).mono ?_); rintro e w4 ⟨rfl, p⟩; have sz := p.size; replace x0 := x0.below p; replace x1 := x1.below p; replace x2 := x2.below p; replace f0 := f0.below p; have bel := bel.trans (p.mono bel.size); have pp := p; clear p; have q00 : w4.cell? ⟨w.heap.size, 0, none⟩ = some (.slice a0 n0 c0) := x0.at (show 0 < 3 by decide); have q01 : w4.cell? ⟨w.heap.size, 1, none⟩ = some (.int .i64 lf) := x0.at (show 1 < 3 by decide); have q02 : w4.cell? ⟨w.heap.size, 2, none⟩ = some (.int .i64 lu) := x0.at (show 2 < 3 by decide); have q10 : w4.cell? ⟨w.heap.size + 1, 0, none⟩ = some (.int .i64 d) := x1.at (show 0 < 2 by decide); have q11 : w4.cell? ⟨w.heap.size + 1, 1, none⟩ = some (.int .i64 f) := x1.at (show 1 < 2 by decide); have q20 : w4.cell? ⟨w.heap.size + 1 + 1, 0, none⟩ = some (.int .i64 pa) := x2.at (show 0 < 4 by decide); have q21 : w4.cell? ⟨w.heap.size + 1 + 1, 1, none⟩ = some (.int .i64 pr) := x2.at (show 1 < 4 by decide); have q22 : w4.cell? ⟨w.heap.size + 1 + 1, 2, none⟩ = some (.int .i64 pc) := x2.at (show 2 < 4 by decide); have q23 : w4.cell? ⟨w.heap.size + 1 + 1, 3, none⟩ = some (.int .i64 py) := x2.at (show 3 < 4 by decide); have bel4 := bel3.trans (pp.mono bel3.size)))
      all_goals
        go_wp2_with fail
        go_meet
        exact ⟨rfl, rfl, rfl, rfl, rfl, rfl, bel4⟩
    case rest =>
      obtain ⟨rfl, rfl, rfl, rfl, rfl, rfl, p⟩ := hcut
      clear q00 q01 q02 q10 q11 q20 q21 q22 q23
      have sz := p.size
      replace x0 := x0.below p
      replace x1 := x1.below p
      replace x2 := x2.below p
      replace f0 := f0.below p
      have bel := bel.trans (p.mono bel.size)
      clear p
      have q00 : wc.cell? ⟨w.heap.size, 0, none⟩ = some (.slice a0 n0 c0) := x0.at (show 0 < 3 by decide)
      have q01 : wc.cell? ⟨w.heap.size, 1, none⟩ = some (.int .i64 lf) := x0.at (show 1 < 3 by decide)
      have q02 : wc.cell? ⟨w.heap.size, 2, none⟩ = some (.int .i64 lu) := x0.at (show 2 < 3 by decide)
      have q10 : wc.cell? ⟨w.heap.size + 1, 0, none⟩ = some (.int .i64 d) := x1.at (show 0 < 2 by decide)
      have q11 : wc.cell? ⟨w.heap.size + 1, 1, none⟩ = some (.int .i64 f) := x1.at (show 1 < 2 by decide)
      have q20 : wc.cell? ⟨w.heap.size + 1 + 1, 0, none⟩ = some (.int .i64 pa) := x2.at (show 0 < 4 by decide)
      have q21 : wc.cell? ⟨w.heap.size + 1 + 1, 1, none⟩ = some (.int .i64 pr) := x2.at (show 1 < 4 by decide)
      have q22 : wc.cell? ⟨w.heap.size + 1 + 1, 2, none⟩ = some (.int .i64 pc) := x2.at (show 2 < 4 by decide)
      have q23 : wc.cell? ⟨w.heap.size + 1 + 1, 3, none⟩ = some (.int .i64 py) := x2.at (show 3 < 4 by decide)
      go_wp2_with fail
      refine (laws_toTrack_in a0 n0 c0 L0 G0 lf lu _ f0 hn0).mono ?_
      rintro e w5 ⟨d2, e2, rfl, o2, p⟩
      clear q00 q01 q02 q10 q11 q20 q21 q22 q23
      have sz := p.size
      replace x0 := x0.below p
      replace x1 := x1.below p
      replace x2 := x2.below p
      replace f0 := f0.below p
      have bel := bel.trans (p.mono bel.size)
      clear p
      have q00 : w5.cell? ⟨w.heap.size, 0, none⟩ = some (.slice a0 n0 c0) := x0.at (show 0 < 3 by decide)
      have q01 : w5.cell? ⟨w.heap.size, 1, none⟩ = some (.int .i64 lf) := x0.at (show 1 < 3 by decide)
      have q02 : w5.cell? ⟨w.heap.size, 2, none⟩ = some (.int .i64 lu) := x0.at (show 2 < 3 by decide)
      have q10 : w5.cell? ⟨w.heap.size + 1, 0, none⟩ = some (.int .i64 d) := x1.at (show 0 < 2 by decide)
      have q11 : w5.cell? ⟨w.heap.size + 1, 1, none⟩ = some (.int .i64 f) := x1.at (show 1 < 2 by decide)
      have q20 : w5.cell? ⟨w.heap.size + 1 + 1, 0, none⟩ = some (.int .i64 pa) := x2.at (show 0 < 4 by decide)
      have q21 : w5.cell? ⟨w.heap.size + 1 + 1, 1, none⟩ = some (.int .i64 pr) := x2.at (show 1 < 4 by decide)
      have q22 : w5.cell? ⟨w.heap.size + 1 + 1, 2, none⟩ = some (.int .i64 pc) := x2.at (show 2 < 4 by decide)
      have q23 : w5.cell? ⟨w.heap.size + 1 + 1, 3, none⟩ = some (.int .i64 py) := x2.at (show 3 < 4 by decide)
      go_upto_region 7 with fail
      clear q00 q01 q02 q10 q11 q20 q21 q22 q23
      have y0 := own_new (lo := w5.heap.size) (hi := w5.heap.size + 1) w5 #[.slice d2 n0 e2, .int .i64 lf, .int .i64 lu] 32 (Nat.le_refl _) (by omega)
      have p : Below w5.heap.size w5 (w5.alloc (Obj.cells #[.slice d2 n0 e2, .int .i64 lf, .int .i64 lu] 32)) := Below.alloc (Below.refl _ _) (Nat.le_refl _) _
      generalize w5.alloc (Obj.cells #[.slice d2 n0 e2, .int .i64 lf, .int .i64 lu] 32) = w6 at *
      have sz := p.size
      replace x0 := x0.below p
      replace x1 := x1.below p
      replace x2 := x2.below p
      replace f0 := f0.below p
      replace o2 := o2.below p
      have bel := bel.trans (p.mono bel.size)
      clear p
      have q00 : w6.cell? ⟨w.heap.size, 0, none⟩ = some (.slice a0 n0 c0) := x0.at (show 0 < 3 by decide)
      have q01 : w6.cell? ⟨w.heap.size, 1, none⟩ = some (.int .i64 lf) := x0.at (show 1 < 3 by decide)
      have q02 : w6.cell? ⟨w.heap.size, 2, none⟩ = some (.int .i64 lu) := x0.at (show 2 < 3 by decide)
      have q10 : w6.cell? ⟨w.heap.size + 1, 0, none⟩ = some (.int .i64 d) := x1.at (show 0 < 2 by decide)
      have q11 : w6.cell? ⟨w.heap.size + 1, 1, none⟩ = some (.int .i64 f) := x1.at (show 1 < 2 by decide)
      have q20 : w6.cell? ⟨w.heap.size + 1 + 1, 0, none⟩ = some (.int .i64 pa) := x2.at (show 0 < 4 by decide)
      have q21 : w6.cell? ⟨w.heap.size + 1 + 1, 1, none⟩ = some (.int .i64 pr) := x2.at (show 1 < 4 by decide)
      have q22 : w6.cell? ⟨w.heap.size + 1 + 1, 2, none⟩ = some (.int .i64 pc) := x2.at (show 2 < 4 by decide)
      have q23 : w6.cell? ⟨w.heap.size + 1 + 1, 3, none⟩ = some (.int .i64 py) := x2.at (show 3 < 4 by decide)
      have qy0 : w6.cell? ⟨w5.heap.size, 0, none⟩ = some (.slice d2 n0 e2) := y0.at (show 0 < 3 by decide)
      have qy1 : w6.cell? ⟨w5.heap.size, 1, none⟩ = some (.int .i64 lf) := y0.at (show 1 < 3 by decide)
      have qy2 : w6.cell? ⟨w5.heap.size, 2, none⟩ = some (.int .i64 lu) := y0.at (show 2 < 3 by decide)
      have l5 : w5.heap.size < w6.heap.size := y0.block (by simp)
      have hsb6 : w.heap.size + 1 + 1 < w6.heap.size := x2.block (by decide)
      have hsb60 : w.heap.size < w6.heap.size := x0.block (by decide)
      have hsb61 : w.heap.size + 1 < w6.heap.size := x1.block (by decide)
      have hB := bel
      (refine wp_region_cls (by kernel_rfl) (by kernel_rfl) ?_; (repeat (go_big_quiet_step ((first | (go_at_call 11; exact cls_B (laws_toBrake_b d f _)) | (go_at_call 17; exact cls_B (laws_toProfile_b pa pr pc py _)) | (go_at_call 18; exact cls_B (ci _ _ _ (o2.cells.pass.below (Cls.below _)))))))); refine wpQuiet_nil ?_; rintro _ ⟨u, rfl⟩; have hb := u.below; replace hB := hB.trans (hb.mono hB.size); generalize u.w = w' at *; obtain ⟨hc, hf, hs⟩ := bkeep hb; have hq' := hb.size; have hq := hB.size; have hb' := hb; clear hb)
      clear hc hf hs hq hq' hB
      clear q00 q01 q02 q10 q11 q20 q21 q22 q23 qy0 qy1 qy2
      have p := hb'
      clear hb'
      have sz := p.size
      replace x0 := x0.below p
      replace x1 := x1.below p
      replace x2 := x2.below p
      replace f0 := f0.below p
      replace y0 := y0.below p
      replace o2 := o2.below p
      have bel := bel.trans (p.mono bel.size)
      clear p
      have q00 : w'.cell? ⟨w.heap.size, 0, none⟩ = some (.slice a0 n0 c0) := x0.at (show 0 < 3 by decide)
      have q01 : w'.cell? ⟨w.heap.size, 1, none⟩ = some (.int .i64 lf) := x0.at (show 1 < 3 by decide)
      have q02 : w'.cell? ⟨w.heap.size, 2, none⟩ = some (.int .i64 lu) := x0.at (show 2 < 3 by decide)
      have q10 : w'.cell? ⟨w.heap.size + 1, 0, none⟩ = some (.int .i64 d) := x1.at (show 0 < 2 by decide)
      have q11 : w'.cell? ⟨w.heap.size + 1, 1, none⟩ = some (.int .i64 f) := x1.at (show 1 < 2 by decide)
      have q20 : w'.cell? ⟨w.heap.size + 1 + 1, 0, none⟩ = some (.int .i64 pa) := x2.at (show 0 < 4 by decide)
      have q21 : w'.cell? ⟨w.heap.size + 1 + 1, 1, none⟩ = some (.int .i64 pr) := x2.at (show 1 < 4 by decide)
      have q22 : w'.cell? ⟨w.heap.size + 1 + 1, 2, none⟩ = some (.int .i64 pc) := x2.at (show 2 < 4 by decide)
      have q23 : w'.cell? ⟨w.heap.size + 1 + 1, 3, none⟩ = some (.int .i64 py) := x2.at (show 3 < 4 by decide)
      have qy0 : w'.cell? ⟨w5.heap.size, 0, none⟩ = some (.slice d2 n0 e2) := y0.at (show 0 < 3 by decide)
      have qy1 : w'.cell? ⟨w5.heap.size, 1, none⟩ = some (.int .i64 lf) := y0.at (show 1 < 3 by decide)
      have qy2 : w'.cell? ⟨w5.heap.size, 2, none⟩ = some (.int .i64 lu) := y0.at (show 2 < 3 by decide)
      go_upto_region 10 with fail
      go_region_with (first | (go_at_call 10; (with_reducible refine (laws_toTrack_in a0 n0 c0 L0 G0 lf lu _ (f0.below (Below.drew (Below.refl _ _))) hn0).mono ?_); rintro e w9 ⟨d3, e3, rfl, o3, p⟩; replace p : Below w'.heap.size w' w9 := Below.trans (Below.drew (Below.refl _ _)) p; have sz := p.size; replace x0 := x0.below p; replace x1 := x1.below p; replace x2 := x2.below p; replace f0 := f0.below p; replace y0 := y0.below p; replace o2 := o2.below p; have bel := bel.trans (p.mono bel.size); clear p; have q00 : w9.cell? ⟨w.heap.size, 0, none⟩ = some (.slice a0 n0 c0) := x0.at (show 0 < 3 by decide); have q01 : w9.cell? ⟨w.heap.size, 1, none⟩ = some (.int .i64 lf) := x0.at (show 1 < 3 by decide); have q02 : w9.cell? ⟨w.heap.size, 2, none⟩ = some (.int .i64 lu) := x0.at (show 2 < 3 by decide); have q10 : w9.cell? ⟨w.heap.size + 1, 0, none⟩ = some (.int .i64 d) := x1.at (show 0 < 2 by decide); have q11 : w9.cell? ⟨w.heap.size + 1, 1, none⟩ = some (.int .i64 f) := x1.at (show 1 < 2 by decide); have q20 : w9.cell? ⟨w.heap.size + 1 + 1, 0, none⟩ = some (.int .i64 pa) := x2.at (show 0 < 4 by decide); have q21 : w9.cell? ⟨w.heap.size + 1 + 1, 1, none⟩ = some (.int .i64 pr) := x2.at (show 1 < 4 by decide); have q22 : w9.cell? ⟨w.heap.size + 1 + 1, 2, none⟩ = some (.int .i64 pc) := x2.at (show 2 < 4 by decide); have q23 : w9.cell? ⟨w.heap.size + 1 + 1, 3, none⟩ = some (.int .i64 py) := x2.at (show 3 < 4 by decide); have qy0 : w9.cell? ⟨w5.heap.size, 0, none⟩ = some (.slice d2 n0 e2) := y0.at (show 0 < 3 by decide); have qy1 : w9.cell? ⟨w5.heap.size, 1, none⟩ = some (.int .i64 lf) := y0.at (show 1 < 3 by decide); have qy2 : w9.cell? ⟨w5.heap.size, 2, none⟩ = some (.int .i64 lu) := y0.at (show 2 < 3 by decide)) | (go_at_call 13; (with_reducible refine (laws_eqTrack_in _ _ _ _ _ _ _ _ _ _ o2.cells o3.cells hn0).mono ?_); rintro e w10 ⟨rfl, p⟩; have bel := bel.trans (p.mono bel.size); clear p))
      all_goals
        go_wp2
        go_returns
        exact ⟨rfl, bel⟩
  · go_enter Try.func5, Try.ntmps5
    go_wp2_with (go_at_call 8; refine (laws_szTrack_no a0 n0 c0 lf lu _ hn0 hmax0).mono ?_; rintro e w' ⟨rfl, hb⟩; have hB : Below w.heap.size w w' := Below.trans (by go_grown) (hb.mono (by go_size)))
    go_returns
    exact ⟨rfl, hB⟩

end Go.Proofs.Ytaagfkldcdebcaa
