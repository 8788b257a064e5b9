/-
  The walks of laws: events that are allowed.
-/
import Derived.Test.YthoilgkhehemfaaKG2
import Derived.Test.YthoilgkhehemfaaKF
namespace Go.Proofs.Ythoilgkhehemfaa
open Go.RowKit
set_option linter.unusedVariables false
set_option linter.unusedSimpArgs false


set_option maxHeartbeats 4000000 in
theorem law_FnExactAllowedEvents (m0 : Int) (o0 : Bool) (a0 : Bool) (b0 : Bool) (e0 : Bool) (w : World)  :
    Calls Try.prog 3 #[.agg #[.int .i64 m0, .bool o0, .bool a0, .bool b0, .bool e0]] w fun e w' => e = .returned (.bool true) ∧ Below w.heap.size w w' := by
  have cs := fun  W  => spec_AllowedEvents m0 o0 a0 b0 e0 W  
  have ci := fun  W  => impl_AllowedEvents m0 o0 a0 b0 e0 W  
  have hL0 : (okL (inB m0 0 4) (allowA ⟨m0, o0, a0, b0, e0⟩ 9)).length ≤ 1048576 := okL_len (Nat.le_trans (accB_len _ _ _) (by decide))
  generalize okL (inB m0 0 4) (allowA ⟨m0, o0, a0, b0, e0⟩ 9) = r0 at *
  generalize okC (inB m0 0 4) 1 = r1 at *
  go_enter Try.func3, Try.ntmps3
  obtain ⟨wb, hwb⟩ : ∃ wb, (w.alloc (Obj.cells #[.int .i64 m0, .bool o0, .bool a0, .bool b0, .bool e0] 23)) = wb := ⟨_, rfl⟩
  have bel0 : Below w.heap.size w wb := by rw [← hwb]; go_grown
  have x0 : OwnIn w.heap.size (w.heap.size + 1) wb (some ⟨w.heap.size, 0, none⟩) 5 (fun q => (#[.int .i64 m0, .bool o0, .bool a0, .bool b0, .bool e0] : Array Value)[q]?.getD (.int .i64 0)) := by rw [← hwb]; exact own_new w #[.int .i64 m0, .bool o0, .bool a0, .bool b0, .bool e0] 23 (Nat.le_refl _) (by omega)
  have HWB := Lib.hid hwb
  have s0 : w.heap.size < wb.heap.size := x0.block (by decide)
  clear hwb
  go_wp2_with fail
  rw [HWB.out]
  refine (laws_toState m0 o0 a0 b0 e0 _).mono ?_
  rintro e w1 ⟨rfl, p1⟩
  have s1 := p1.size
  have bel1 := bel0.trans (p1.mono bel0.size)
  replace x0 := x0.below p1
  clear p1 bel0
  go_wp2_with fail
  refine (cs  _ ).mono ?_
  rintro e w2 ⟨A2, C2, rfl, g2, p2⟩
  have s2 := p2.size
  have bel2 := bel1.trans (p2.mono bel1.size)
  replace x0 := x0.below p2
  clear p2 bel1
  have qx00 : w2.cell? ⟨w.heap.size, 0, none⟩ = some (.int .i64 m0) := x0.at (by decide)
  have qx01 : w2.cell? ⟨w.heap.size, 1, none⟩ = some (.bool o0) := x0.at (by decide)
  have qx02 : w2.cell? ⟨w.heap.size, 2, none⟩ = some (.bool a0) := x0.at (by decide)
  have qx03 : w2.cell? ⟨w.heap.size, 3, none⟩ = some (.bool b0) := x0.at (by decide)
  have qx04 : w2.cell? ⟨w.heap.size, 4, none⟩ = some (.bool e0) := x0.at (by decide)
  go_wp2_with fail
  clear qx00
  clear qx01
  clear qx02
  clear qx03
  clear qx04
  refine (laws_toState m0 o0 a0 b0 e0 _).mono ?_
  rintro e w3 ⟨rfl, p3⟩
  have s3 := p3.size
  have bel3 := bel2.trans (p3.mono bel2.size)
  replace x0 := x0.below p3
  replace g2 := g2.below p3
  clear p3 bel2
  go_wp2_with fail
  refine (ci  _ ).mono ?_
  rintro e w4 ⟨A4, C4, rfl, g4, p4⟩
  have s4 := p4.size
  have bel4 := bel3.trans (p4.mono bel3.size)
  replace x0 := x0.below p4
  replace g2 := g2.below p4
  clear p4 bel3
  go_wp2_with fail
  refine (laws_eqInt64S_in _ _ _ _ _ _ _ g4.cells g2.cells hL0).mono ?_
  rintro e w5 ⟨rfl, p5⟩
  have s5 := p5.size
  have bel5 := bel4.trans (p5.mono bel4.size)
  replace x0 := x0.below p5
  replace g2 := g2.below p5
  replace g4 := g4.below p5
  clear p5 bel4
  go_wp2_with fail
  refine (laws_markInt64S _ _ _ _ _ _ g4 hL0 (by omega) (by omega)).mono ?_
  clear g4
  rintro e w6 ⟨rfl, g4, p6⟩
  have s6 := p6.size
  have bel6 := bel5.trans (p6.below (by omega) bel5.size)
  replace x0 := x0.keep p6 (by omega)
  replace g2 := g2.keep p6 (by omega)
  clear p6 bel5
  go_wp2_with fail
  refine (laws_heldInt64S _ _ _ _ _ g4.cells hL0 (by omega) (by omega)).mono ?_
  rintro e w' ⟨rfl, rfl⟩
  have qx00 : w6.cell? ⟨w.heap.size, 0, none⟩ = some (.int .i64 m0) := x0.at (by decide)
  have qx01 : w6.cell? ⟨w.heap.size, 1, none⟩ = some (.bool o0) := x0.at (by decide)
  have qx02 : w6.cell? ⟨w.heap.size, 2, none⟩ = some (.bool a0) := x0.at (by decide)
  have qx03 : w6.cell? ⟨w.heap.size, 3, none⟩ = some (.bool b0) := x0.at (by decide)
  have qx04 : w6.cell? ⟨w.heap.size, 4, none⟩ = some (.bool e0) := x0.at (by decide)
  go_wp2_with fail
  clear qx00
  clear qx01
  clear qx02
  clear qx03
  clear qx04
  refine (laws_toState m0 o0 a0 b0 e0 _).mono ?_
  rintro e w7 ⟨rfl, p7⟩
  have s7 := p7.size
  have bel7 := bel6.trans (p7.mono bel6.size)
  clear x0
  replace g2 := g2.below p7
  replace g4 := g4.below p7
  clear p7 bel6
  go_wp2_with fail
  refine (ci  _ ).mono ?_
  rintro e w8 ⟨A8, C8, rfl, g8, p8⟩
  have s8 := p8.size
  have bel8 := bel7.trans (p8.mono bel7.size)
  replace g2 := g2.below p8
  replace g4 := g4.below p8
  clear p8 bel7
  go_wp2_with fail
  refine (laws_eqInt64S_in _ _ _ _ _ _ _ g8.cells g2.cells hL0).mono ?_
  rintro e w9 ⟨rfl, p9⟩
  have s9 := p9.size
  have bel9 := bel8.trans (p9.mono bel8.size)
  clear g2
  replace g4 := g4.below p9
  clear g8
  clear p9 bel8
  go_wp2_with fail
  refine (laws_heldInt64S _ _ _ _ _ g4.cells hL0 (by omega) (by omega)).mono ?_
  rintro e w' ⟨rfl, rfl⟩
  go_wp2
  go_returns
  exact ⟨rfl, bel9⟩

end Go.Proofs.Ythoilgkhehemfaa
