/-
  The walks of laws: events of a door one after another.
-/
import Derived.Test.YtdnnmpmpemcpbaaKL2
import Derived.Test.YtdnnmpmpemcpbaaKF
namespace Go.Proofs.Ytdnnmpmpemcpbaa
open Go.RowKit
set_option linter.unusedVariables false
set_option linter.unusedSimpArgs false


set_option maxHeartbeats 4000000 in
theorem law_FnExactDoorRun (p0 : Int) (t0 : Int) (y0 : Int) (a1 : Option Addr) (n1 c1 : Nat) (Z1 : Nat → Int) (w : World) (hz1 : IntsAt w a1 n1 Z1) (hmax1 : n1 ≤ 9223372036854775807) :
    Calls Try.prog 3 #[.agg #[.int .i64 p0, .int .i64 t0, .int .i64 y0], .slice a1 n1 c1] w fun e w' => e = .returned (.bool true) ∧ Below w.heap.size w w' := by
  by_cases hn1 : n1 ≤ 1048576
  · have cs := fun A1 C1 W h1 => spec_DoorRun p0 t0 y0 A1 n1 C1 Z1 W h1 hn1
    have ci := fun A1 C1 W h1 => impl_DoorRun p0 t0 y0 A1 n1 C1 Z1 W h1 hn1
    generalize drO ⟨p0, t0, y0⟩ Z1 n1 = r0 at *
    obtain ⟨u0, u1, u2⟩ := r0
    simp only [Dr.val] at *
    generalize drC ⟨p0, t0, y0⟩ Z1 n1 = r1 at *
    go_enter Try.func3, Try.ntmps3
    obtain ⟨wb, hwb⟩ : ∃ wb, (w.alloc (Obj.cells #[.int .i64 p0, .int .i64 t0, .int .i64 y0] 23)) = wb := ⟨_, rfl⟩
    have bel0 : Below w.heap.size w wb := by rw [← hwb]; go_grown
    have x0 : OwnIn w.heap.size (w.heap.size + 1) wb (some ⟨w.heap.size, 0, none⟩) 3 (fun q => (#[.int .i64 p0, .int .i64 t0, .int .i64 y0] : Array Value)[q]?.getD (.int .i64 0)) := by rw [← hwb]; exact own_new w #[.int .i64 p0, .int .i64 t0, .int .i64 y0] 23 (Nat.le_refl _) (by omega)
    have HWB := Lib.hid hwb
    have s0 : w.heap.size < wb.heap.size := x0.block (by decide)
    clear hwb
    have f1 := (hz1.cells).keep (Keep.of_below (lo := w.heap.size) (hi := w.heap.size) bel0) (by omega)
    clear hz1
    go_upto_region 4 with (first | (go_at_call 10; rw [HWB.out]; (with_reducible refine (laws_toDoor p0 t0 y0 _).mono ?_); rintro e w1 ⟨rfl, p1⟩; have s1 := p1.size; have bel1 := bel0.trans (p1.mono bel0.size); replace x0 := x0.below p1; replace f1 := f1.below p1; clear p1 bel0) | (go_at_call 11; (with_reducible refine (laws_toInt64S_in a1 n1 c1 Z1 _ f1 hn1).mono ?_); rintro e w2 ⟨d1, e1, rfl, o1, p2⟩; have s2 := p2.size; have bel2 := bel1.trans (p2.mono bel1.size); replace x0 := x0.below p2; replace f1 := f1.below p2; clear p2 bel1) | (go_at_call 9; (with_reducible refine (cs _ _ _ o1.cells.ints).mono ?_); rintro e w3 ⟨rfl, p3⟩; have s3 := p3.size; have bel3 := bel2.trans (p3.mono bel2.size); replace x0 := x0.below p3; replace f1 := f1.below p3; clear o1; clear p3 bel2))
    have y4 := own_new (lo := w3.heap.size) (hi := w3.heap.size + 1) w3 #[.int .i64 u0, .int .i64 u1, .int .i64 u2] 25 (Nat.le_refl _) (by omega)
    have hpp : Below w3.heap.size w3 (w3.alloc (Obj.cells #[.int .i64 u0, .int .i64 u1, .int .i64 u2] 25)) := Below.alloc (Below.refl _ _) (Nat.le_refl _) _
    generalize w3.alloc (Obj.cells #[.int .i64 u0, .int .i64 u1, .int .i64 u2] 25) = w4 at *
    have p4 := hpp
    have s4 := p4.size
    have bel4 := bel3.trans (p4.mono bel3.size)
    replace x0 := x0.below p4
    replace f1 := f1.below p4
    clear p4 bel3
    clear hpp
    go_wp2_with fail
    refine (laws_toInt64S_in a1 n1 c1 Z1 _ f1 hn1).mono ?_
    rintro e w5 ⟨d2, e2, rfl, o2, p5⟩
    have s5 := p5.size
    have bel5 := bel4.trans (p5.mono bel4.size)
    replace x0 := x0.below p5
    replace f1 := f1.below p5
    replace y4 := y4.below p5
    clear p5 bel4
    have qx00 : w5.cell? ⟨w.heap.size, 0, none⟩ = some (.int .i64 p0) := x0.at (show 0 < 3 by decide)
    have qx01 : w5.cell? ⟨w.heap.size, 1, none⟩ = some (.int .i64 t0) := x0.at (show 1 < 3 by decide)
    have qx02 : w5.cell? ⟨w.heap.size, 2, none⟩ = some (.int .i64 y0) := x0.at (show 2 < 3 by decide)
    go_upto_region 6 with (first | (go_at_call 10; (with_reducible refine (laws_toDoor p0 t0 y0 _).mono ?_); rintro e w6 ⟨rfl, p6⟩; have s6 := p6.size; have bel6 := bel5.trans (p6.mono bel5.size); clear x0; replace f1 := f1.below p6; replace y4 := y4.below p6; replace o2 := o2.below p6; clear p6 bel5) | (go_at_call 12; (with_reducible refine (ci _ _ _ o2.cells.ints).mono ?_); rintro e w7 ⟨rfl, p7⟩; have s7 := p7.size; have bel7 := bel6.trans (p7.mono bel6.size); replace f1 := f1.below p7; replace y4 := y4.below p7; replace o2 := o2.below p7; clear p7 bel6))
    clear qx00 qx01 qx02
    have y8 := own_new (lo := w7.heap.size) (hi := w7.heap.size + 1) w7 #[.int .i64 u0, .int .i64 u1, .int .i64 u2] 25 (Nat.le_refl _) (by omega)
    have hpp : Below w7.heap.size w7 (w7.alloc (Obj.cells #[.int .i64 u0, .int .i64 u1, .int .i64 u2] 25)) := Below.alloc (Below.refl _ _) (Nat.le_refl _) _
    generalize w7.alloc (Obj.cells #[.int .i64 u0, .int .i64 u1, .int .i64 u2] 25) = w8 at *
    have p8 := hpp
    have s8 := p8.size
    have bel8 := bel7.trans (p8.mono bel7.size)
    replace f1 := f1.below p8
    replace y4 := y4.below p8
    replace o2 := o2.below p8
    clear p8 bel7
    clear hpp
    have qy80 : w8.cell? ⟨w7.heap.size, 0, none⟩ = some (.int .i64 u0) := y8.at (show 0 < 3 by decide)
    have qy81 : w8.cell? ⟨w7.heap.size, 1, none⟩ = some (.int .i64 u1) := y8.at (show 1 < 3 by decide)
    have qy82 : w8.cell? ⟨w7.heap.size, 2, none⟩ = some (.int .i64 u2) := y8.at (show 2 < 3 by decide)
    have qy40 : w8.cell? ⟨w3.heap.size, 0, none⟩ = some (.int .i64 u0) := y4.at (show 0 < 3 by decide)
    have qy41 : w8.cell? ⟨w3.heap.size, 1, none⟩ = some (.int .i64 u1) := y4.at (show 1 < 3 by decide)
    have qy42 : w8.cell? ⟨w3.heap.size, 2, none⟩ = some (.int .i64 u2) := y4.at (show 2 < 3 by decide)
    go_wp2_with fail
    clear qy80
    clear qy81
    clear qy82
    clear qy40
    clear qy41
    clear qy42
    refine (laws_eqDoor_same _ _ _ _).mono ?_
    rintro e w9 ⟨rfl, p9⟩
    have s9 := p9.size
    have bel9 := bel8.trans (p9.mono bel8.size)
    replace f1 := f1.below p9
    clear y4
    replace o2 := o2.below p9
    clear y8
    clear p9 bel8
    go_wp2_with fail
    refine (laws_toInt64S_in a1 n1 c1 Z1 _ f1 hn1).mono ?_
    rintro e w10 ⟨d3, e3, rfl, o3, p10⟩
    have s10 := p10.size
    have bel10 := bel9.trans (p10.mono bel9.size)
    clear f1
    replace o2 := o2.below p10
    clear p10 bel9
    go_wp2_with fail
    refine (laws_eqInt64S_in _ _ _ _ _ _ _ o2.cells o3.cells hn1).mono ?_
    rintro e w11 ⟨rfl, p11⟩
    have s11 := p11.size
    have bel11 := bel10.trans (p11.mono bel10.size)
    clear o2
    clear o3
    clear p11 bel10
    go_wp2
    go_returns
    exact ⟨rfl, bel11⟩
  · go_enter Try.func3, Try.ntmps3
    go_wp2
    go_returns
    exact ⟨rfl, by go_grown⟩

set_option maxHeartbeats 4000000 in
theorem law_FnExactRefusedEvents (p0 : Int) (t0 : Int) (y0 : Int) (a1 : Option Addr) (n1 c1 : Nat) (Z1 : Nat → Int) (w : World) (hz1 : IntsAt w a1 n1 Z1) (hmax1 : n1 ≤ 9223372036854775807) :
    Calls Try.prog 4 #[.agg #[.int .i64 p0, .int .i64 t0, .int .i64 y0], .slice a1 n1 c1] w fun e w' => e = .returned (.bool true) ∧ Below w.heap.size w w' := by
  by_cases hn1 : n1 ≤ 1048576
  · have cs := fun A1 C1 W h1 => spec_RefusedEvents p0 t0 y0 A1 n1 C1 Z1 W h1 hn1
    have ci := fun A1 C1 W h1 => impl_RefusedEvents p0 t0 y0 A1 n1 C1 Z1 W h1 hn1
    have hL0 : (drL ⟨p0, t0, y0⟩ Z1 n1).length ≤ 1048576 := by unfold drL; split; exact Nat.le_trans (refL_len _ _ _) hn1; simp
    generalize drL ⟨p0, t0, y0⟩ Z1 n1 = r0 at *
    generalize drC ⟨p0, t0, y0⟩ Z1 n1 = r1 at *
    go_enter Try.func4, Try.ntmps4
    obtain ⟨wb, hwb⟩ : ∃ wb, (w.alloc (Obj.cells #[.int .i64 p0, .int .i64 t0, .int .i64 y0] 23)) = wb := ⟨_, rfl⟩
    have bel0 : Below w.heap.size w wb := by rw [← hwb]; go_grown
    have x0 : OwnIn w.heap.size (w.heap.size + 1) wb (some ⟨w.heap.size, 0, none⟩) 3 (fun q => (#[.int .i64 p0, .int .i64 t0, .int .i64 y0] : Array Value)[q]?.getD (.int .i64 0)) := by rw [← hwb]; exact own_new w #[.int .i64 p0, .int .i64 t0, .int .i64 y0] 23 (Nat.le_refl _) (by omega)
    have HWB := Lib.hid hwb
    have s0 : w.heap.size < wb.heap.size := x0.block (by decide)
    clear hwb
    have f1 := (hz1.cells).keep (Keep.of_below (lo := w.heap.size) (hi := w.heap.size) bel0) (by omega)
    clear hz1
    go_wp2_with fail
    rw [HWB.out]
    refine (laws_toDoor p0 t0 y0 _).mono ?_
    rintro e w1 ⟨rfl, p1⟩
    have s1 := p1.size
    have bel1 := bel0.trans (p1.mono bel0.size)
    replace x0 := x0.below p1
    replace f1 := f1.below p1
    clear p1 bel0
    go_wp2_with fail
    refine (laws_toInt64S_in a1 n1 c1 Z1 _ f1 hn1).mono ?_
    rintro e w2 ⟨d1, e1, rfl, o1, p2⟩
    have s2 := p2.size
    have bel2 := bel1.trans (p2.mono bel1.size)
    replace x0 := x0.below p2
    replace f1 := f1.below p2
    clear p2 bel1
    go_wp2_with fail
    refine (cs _ _ _ o1.cells.ints).mono ?_
    rintro e w3 ⟨A3, C3, rfl, g3, p3⟩
    have s3 := p3.size
    have bel3 := bel2.trans (p3.mono bel2.size)
    replace x0 := x0.below p3
    replace f1 := f1.below p3
    clear o1
    clear p3 bel2
    go_wp2_with fail
    refine (laws_toInt64S_in a1 n1 c1 Z1 _ f1 hn1).mono ?_
    rintro e w4 ⟨d2, e2, rfl, o2, p4⟩
    have s4 := p4.size
    have bel4 := bel3.trans (p4.mono bel3.size)
    replace x0 := x0.below p4
    replace f1 := f1.below p4
    replace g3 := g3.below p4
    clear p4 bel3
    have qx00 : w4.cell? ⟨w.heap.size, 0, none⟩ = some (.int .i64 p0) := x0.at (show 0 < 3 by decide)
    have qx01 : w4.cell? ⟨w.heap.size, 1, none⟩ = some (.int .i64 t0) := x0.at (show 1 < 3 by decide)
    have qx02 : w4.cell? ⟨w.heap.size, 2, none⟩ = some (.int .i64 y0) := x0.at (show 2 < 3 by decide)
    go_wp2_with fail
    clear qx00
    clear qx01
    clear qx02
    refine (laws_toDoor p0 t0 y0 _).mono ?_
    rintro e w5 ⟨rfl, p5⟩
    have s5 := p5.size
    have bel5 := bel4.trans (p5.mono bel4.size)
    replace x0 := x0.below p5
    replace f1 := f1.below p5
    replace g3 := g3.below p5
    replace o2 := o2.below p5
    clear p5 bel4
    go_wp2_with fail
    refine (ci _ _ _ o2.cells.ints).mono ?_
    rintro e w6 ⟨A6, C6, rfl, g6, p6⟩
    have s6 := p6.size
    have bel6 := bel5.trans (p6.mono bel5.size)
    replace x0 := x0.below p6
    replace f1 := f1.below p6
    replace g3 := g3.below p6
    replace o2 := o2.below p6
    clear p6 bel5
    go_wp2_with fail
    refine (laws_eqInt64S_in _ _ _ _ _ _ _ g6.cells g3.cells hL0).mono ?_
    rintro e w7 ⟨rfl, p7⟩
    have s7 := p7.size
    have bel7 := bel6.trans (p7.mono bel6.size)
    replace x0 := x0.below p7
    replace f1 := f1.below p7
    replace g3 := g3.below p7
    replace o2 := o2.below p7
    replace g6 := g6.below p7
    clear p7 bel6
    go_wp2_with fail
    refine (laws_toInt64S_in a1 n1 c1 Z1 _ f1 hn1).mono ?_
    rintro e w8 ⟨d3, e3, rfl, o3, p8⟩
    have s8 := p8.size
    have bel8 := bel7.trans (p8.mono bel7.size)
    replace x0 := x0.below p8
    replace f1 := f1.below p8
    replace g3 := g3.below p8
    replace o2 := o2.below p8
    replace g6 := g6.below p8
    clear p8 bel7
    go_wp2_with fail
    refine (laws_eqInt64S_in _ _ _ _ _ _ _ o2.cells o3.cells hn1).mono ?_
    rintro e w9 ⟨rfl, p9⟩
    have s9 := p9.size
    have bel9 := bel8.trans (p9.mono bel8.size)
    replace x0 := x0.below p9
    replace f1 := f1.below p9
    replace g3 := g3.below p9
    replace o2 := o2.below p9
    replace g6 := g6.below p9
    clear o3
    clear p9 bel8
    go_wp2_with fail
    refine (laws_markInt64S _ _ _ _ _ _ o2 hn1 (by omega) (by omega)).mono ?_
    clear o2
    rintro e w10 ⟨rfl, o2, p10⟩
    have s10 := p10.size
    have bel10 := bel9.trans (p10.below (by omega) bel9.size)
    replace x0 := x0.keep p10 (by omega)
    replace f1 := f1.keep p10 (by omega)
    replace g3 := g3.keep p10 (by omega)
    replace g6 := g6.keep p10 (by omega)
    clear p10 bel9
    go_wp2_with fail
    refine (laws_eqInt64S_in _ _ _ _ _ _ _ g6.cells g3.cells hL0).mono ?_
    rintro e w11 ⟨rfl, p11⟩
    have s11 := p11.size
    have bel11 := bel10.trans (p11.mono bel10.size)
    replace x0 := x0.below p11
    replace f1 := f1.below p11
    replace g3 := g3.below p11
    clear o2
    replace g6 := g6.below p11
    clear p11 bel10
    go_wp2_with fail
    refine (laws_markInt64S _ _ _ _ _ _ g6 hL0 (by omega) (by omega)).mono ?_
    clear g6
    rintro e w12 ⟨rfl, g6, p12⟩
    have s12 := p12.size
    have bel12 := bel11.trans (p12.below (by omega) bel11.size)
    replace x0 := x0.keep p12 (by omega)
    replace f1 := f1.keep p12 (by omega)
    replace g3 := g3.keep p12 (by omega)
    clear p12 bel11
    go_wp2_with fail
    refine (laws_heldInt64S _ _ _ _ _ g6.cells hL0 (by omega) (by omega)).mono ?_
    rintro e w' ⟨rfl, rfl⟩
    have qx00 : w12.cell? ⟨w.heap.size, 0, none⟩ = some (.int .i64 p0) := x0.at (show 0 < 3 by decide)
    have qx01 : w12.cell? ⟨w.heap.size, 1, none⟩ = some (.int .i64 t0) := x0.at (show 1 < 3 by decide)
    have qx02 : w12.cell? ⟨w.heap.size, 2, none⟩ = some (.int .i64 y0) := x0.at (show 2 < 3 by decide)
    go_wp2_with fail
    clear qx00
    clear qx01
    clear qx02
    refine (laws_toDoor p0 t0 y0 _).mono ?_
    rintro e w13 ⟨rfl, p13⟩
    have s13 := p13.size
    have bel13 := bel12.trans (p13.mono bel12.size)
    clear x0
    replace f1 := f1.below p13
    replace g3 := g3.below p13
    replace g6 := g6.below p13
    clear p13 bel12
    go_wp2_with fail
    refine (laws_toInt64S_in a1 n1 c1 Z1 _ f1 hn1).mono ?_
    rintro e w14 ⟨d4, e4, rfl, o4, p14⟩
    have s14 := p14.size
    have bel14 := bel13.trans (p14.mono bel13.size)
    clear f1
    replace g3 := g3.below p14
    replace g6 := g6.below p14
    clear p14 bel13
    go_wp2_with fail
    refine (ci _ _ _ o4.cells.ints).mono ?_
    rintro e w15 ⟨A15, C15, rfl, g15, p15⟩
    have s15 := p15.size
    have bel15 := bel14.trans (p15.mono bel14.size)
    replace g3 := g3.below p15
    replace g6 := g6.below p15
    clear o4
    clear p15 bel14
    go_wp2_with fail
    refine (laws_eqInt64S_in _ _ _ _ _ _ _ g15.cells g3.cells hL0).mono ?_
    rintro e w16 ⟨rfl, p16⟩
    have s16 := p16.size
    have bel16 := bel15.trans (p16.mono bel15.size)
    clear g3
    replace g6 := g6.below p16
    clear g15
    clear p16 bel15
    go_wp2_with fail
    refine (laws_heldInt64S _ _ _ _ _ g6.cells hL0 (by omega) (by omega)).mono ?_
    rintro e w' ⟨rfl, rfl⟩
    go_wp2
    go_returns
    exact ⟨rfl, bel16⟩
  · go_enter Try.func4, Try.ntmps4
    go_wp2
    go_returns
    exact ⟨rfl, by go_grown⟩

end Go.Proofs.Ytdnnmpmpemcpbaa
