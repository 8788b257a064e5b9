/-
  The walks of laws: events one after another.
-/
import Derived.Test.YthoilgkhehemfaaKI2
import Derived.Test.YthoilgkhehemfaaKF
namespace Go.Proofs.Ythoilgkhehemfaa
open Go.RowKit
set_option linter.unusedVariables false
set_option linter.unusedSimpArgs false


set_option maxHeartbeats 4000000 in
theorem law_FnExactCountRides (m0 : Int) (o0 : Bool) (a0 : Bool) (b0 : Bool) (e0 : Bool) (a1 : Option Addr) (n1 c1 : Nat) (Z1 : Nat → Int) (w : World) (hz1 : IntsAt w a1 n1 Z1) (hmax1 : n1 ≤ 9223372036854775807) :
    Calls Try.prog 5 #[.agg #[.int .i64 m0, .bool o0, .bool a0, .bool b0, .bool e0], .slice a1 n1 c1] w fun e w' => e = .returned (.bool true) ∧ Below w.heap.size w w' := by
  by_cases hn1 : n1 ≤ 1048576
  · have cs := fun A1 C1 W h1 => spec_CountRides m0 o0 a0 b0 e0 A1 n1 C1 Z1 W h1 hn1
    have ci := fun A1 C1 W h1 => impl_CountRides m0 o0 a0 b0 e0 A1 n1 C1 Z1 W h1 hn1
    generalize runD ⟨m0, o0, a0, b0, e0⟩ Z1 n1 = r0 at *
    generalize runC ⟨m0, o0, a0, b0, e0⟩ Z1 n1 = r1 at *
    go_enter Try.func5, Try.ntmps5
    obtain ⟨wb, hwb⟩ : ∃ wb, (w.alloc (Obj.cells #[.int .i64 m0, .bool o0, .bool a0, .bool b0, .bool e0] 23)) = wb := ⟨_, rfl⟩
    have bel0 : Below w.heap.size w wb := by rw [← hwb]; go_grown
    have x0 : OwnIn w.heap.size (w.heap.size + 1) wb (some ⟨w.heap.size, 0, none⟩) 5 (fun q => (#[.int .i64 m0, .bool o0, .bool a0, .bool b0, .bool e0] : Array Value)[q]?.getD (.int .i64 0)) := by rw [← hwb]; exact own_new w #[.int .i64 m0, .bool o0, .bool a0, .bool b0, .bool e0] 23 (Nat.le_refl _) (by omega)
    have HWB := Lib.hid hwb
    have s0 : w.heap.size < wb.heap.size := x0.block (by decide)
    clear hwb
    have f1 := (hz1.cells).keep (Keep.of_below (lo := w.heap.size) (hi := w.heap.size) bel0) (by omega)
    clear hz1
    go_wp2_with fail
    rw [HWB.out]
    refine (laws_toState m0 o0 a0 b0 e0 _).mono ?_
    rintro e w1 ⟨rfl, p1⟩
    have s1 := p1.size
    have bel1 := bel0.trans (p1.mono bel0.size)
    replace x0 := x0.below p1
    replace f1 := f1.below p1
    clear p1 bel0
    go_wp2_with fail
    refine (laws_toInt64S_in a1 n1 c1 Z1 _ f1 hn1).mono ?_
    rintro e w2 ⟨d1, e1, rfl, o1, p2⟩
    have s2 := p2.size
    have bel2 := bel1.trans (p2.mono bel1.size)
    replace x0 := x0.below p2
    replace f1 := f1.below p2
    clear p2 bel1
    go_wp2_with fail
    refine (cs _ _ _ o1.cells.ints).mono ?_
    rintro e w3 ⟨rfl, p3⟩
    have s3 := p3.size
    have bel3 := bel2.trans (p3.mono bel2.size)
    replace x0 := x0.below p3
    replace f1 := f1.below p3
    clear o1
    clear p3 bel2
    go_wp2_with fail
    refine (laws_toInt64S_in a1 n1 c1 Z1 _ f1 hn1).mono ?_
    rintro e w4 ⟨d2, e2, rfl, o2, p4⟩
    have s4 := p4.size
    have bel4 := bel3.trans (p4.mono bel3.size)
    replace x0 := x0.below p4
    replace f1 := f1.below p4
    clear p4 bel3
    have qx00 : w4.cell? ⟨w.heap.size, 0, none⟩ = some (.int .i64 m0) := x0.at (show 0 < 5 by decide)
    have qx01 : w4.cell? ⟨w.heap.size, 1, none⟩ = some (.bool o0) := x0.at (show 1 < 5 by decide)
    have qx02 : w4.cell? ⟨w.heap.size, 2, none⟩ = some (.bool a0) := x0.at (show 2 < 5 by decide)
    have qx03 : w4.cell? ⟨w.heap.size, 3, none⟩ = some (.bool b0) := x0.at (show 3 < 5 by decide)
    have qx04 : w4.cell? ⟨w.heap.size, 4, none⟩ = some (.bool e0) := x0.at (show 4 < 5 by decide)
    go_wp2_with fail
    clear qx00
    clear qx01
    clear qx02
    clear qx03
    clear qx04
    refine (laws_toState m0 o0 a0 b0 e0 _).mono ?_
    rintro e w5 ⟨rfl, p5⟩
    have s5 := p5.size
    have bel5 := bel4.trans (p5.mono bel4.size)
    clear x0
    replace f1 := f1.below p5
    replace o2 := o2.below p5
    clear p5 bel4
    go_wp2_with fail
    refine (ci _ _ _ o2.cells.ints).mono ?_
    rintro e w6 ⟨rfl, p6⟩
    have s6 := p6.size
    have bel6 := bel5.trans (p6.mono bel5.size)
    replace f1 := f1.below p6
    replace o2 := o2.below p6
    clear p6 bel5
    go_wp2_with fail
    refine (laws_toInt64S_in a1 n1 c1 Z1 _ f1 hn1).mono ?_
    rintro e w7 ⟨d3, e3, rfl, o3, p7⟩
    have s7 := p7.size
    have bel7 := bel6.trans (p7.mono bel6.size)
    clear f1
    replace o2 := o2.below p7
    clear p7 bel6
    go_wp2_with fail
    refine (laws_eqInt64S_in _ _ _ _ _ _ _ o2.cells o3.cells hn1).mono ?_
    rintro e w8 ⟨rfl, p8⟩
    have s8 := p8.size
    have bel8 := bel7.trans (p8.mono bel7.size)
    clear o2
    clear o3
    clear p8 bel7
    go_wp2
    go_returns
    exact ⟨rfl, bel8⟩
  · go_enter Try.func5, Try.ntmps5
    go_wp2
    go_returns
    exact ⟨rfl, by go_grown⟩

set_option maxHeartbeats 4000000 in
theorem law_FnExactRunEvents (m0 : Int) (o0 : Bool) (a0 : Bool) (b0 : Bool) (e0 : Bool) (a1 : Option Addr) (n1 c1 : Nat) (Z1 : Nat → Int) (w : World) (hz1 : IntsAt w a1 n1 Z1) (hmax1 : n1 ≤ 9223372036854775807) :
    Calls Try.prog 7 #[.agg #[.int .i64 m0, .bool o0, .bool a0, .bool b0, .bool e0], .slice a1 n1 c1] w fun e w' => e = .returned (.bool true) ∧ Below w.heap.size w w' := by
  by_cases hn1 : n1 ≤ 1048576
  · have cs := fun A1 C1 W h1 => spec_RunEvents m0 o0 a0 b0 e0 A1 n1 C1 Z1 W h1 hn1
    have ci := fun A1 C1 W h1 => impl_RunEvents m0 o0 a0 b0 e0 A1 n1 C1 Z1 W h1 hn1
    generalize runS ⟨m0, o0, a0, b0, e0⟩ Z1 n1 = r0 at *
    obtain ⟨u0, u1, u2, u3, u4⟩ := r0
    simp only [St.val] at *
    generalize runR ⟨m0, o0, a0, b0, e0⟩ Z1 n1 = r1 at *
    generalize runC ⟨m0, o0, a0, b0, e0⟩ Z1 n1 = r2 at *
    go_enter Try.func7, Try.ntmps7
    obtain ⟨wb, hwb⟩ : ∃ wb, (w.alloc (Obj.cells #[.int .i64 m0, .bool o0, .bool a0, .bool b0, .bool e0] 23)) = wb := ⟨_, rfl⟩
    have bel0 : Below w.heap.size w wb := by rw [← hwb]; go_grown
    have x0 : OwnIn w.heap.size (w.heap.size + 1) wb (some ⟨w.heap.size, 0, none⟩) 5 (fun q => (#[.int .i64 m0, .bool o0, .bool a0, .bool b0, .bool e0] : Array Value)[q]?.getD (.int .i64 0)) := by rw [← hwb]; exact own_new w #[.int .i64 m0, .bool o0, .bool a0, .bool b0, .bool e0] 23 (Nat.le_refl _) (by omega)
    have HWB := Lib.hid hwb
    have s0 : w.heap.size < wb.heap.size := x0.block (by decide)
    clear hwb
    have f1 := (hz1.cells).keep (Keep.of_below (lo := w.heap.size) (hi := w.heap.size) bel0) (by omega)
    clear hz1
    go_upto_region 4 with (first | (go_at_call 12; rw [HWB.out]; (with_reducible refine (laws_toState m0 o0 a0 b0 e0 _).mono ?_); rintro e w1 ⟨rfl, p1⟩; have s1 := p1.size; have bel1 := bel0.trans (p1.mono bel0.size); replace x0 := x0.below p1; replace f1 := f1.below p1; clear p1 bel0) | (go_at_call 21; (with_reducible refine (laws_toInt64S_in a1 n1 c1 Z1 _ f1 hn1).mono ?_); rintro e w2 ⟨d1, e1, rfl, o1, p2⟩; have s2 := p2.size; have bel2 := bel1.trans (p2.mono bel1.size); replace x0 := x0.below p2; replace f1 := f1.below p2; clear p2 bel1) | (go_at_call 25; (with_reducible refine (cs _ _ _ o1.cells.ints).mono ?_); rintro e w3 ⟨rfl, p3⟩; have s3 := p3.size; have bel3 := bel2.trans (p3.mono bel2.size); replace x0 := x0.below p3; replace f1 := f1.below p3; clear o1; clear p3 bel2))
    have y4 := own_new (lo := w3.heap.size) (hi := w3.heap.size + 1) w3 #[.int .i64 u0, .bool u1, .bool u2, .bool u3, .bool u4] 27 (Nat.le_refl _) (by omega)
    have hpp : Below w3.heap.size w3 (w3.alloc (Obj.cells #[.int .i64 u0, .bool u1, .bool u2, .bool u3, .bool u4] 27)) := Below.alloc (Below.refl _ _) (Nat.le_refl _) _
    generalize w3.alloc (Obj.cells #[.int .i64 u0, .bool u1, .bool u2, .bool u3, .bool u4] 27) = w4 at *
    have p4 := hpp
    have s4 := p4.size
    have bel4 := bel3.trans (p4.mono bel3.size)
    replace x0 := x0.below p4
    replace f1 := f1.below p4
    clear p4 bel3
    clear hpp
    go_wp2_with fail
    refine (laws_toInt64S_in a1 n1 c1 Z1 _ f1 hn1).mono ?_
    rintro e w5 ⟨d2, e2, rfl, o2, p5⟩
    have s5 := p5.size
    have bel5 := bel4.trans (p5.mono bel4.size)
    replace x0 := x0.below p5
    replace f1 := f1.below p5
    replace y4 := y4.below p5
    clear p5 bel4
    have qx00 : w5.cell? ⟨w.heap.size, 0, none⟩ = some (.int .i64 m0) := x0.at (show 0 < 5 by decide)
    have qx01 : w5.cell? ⟨w.heap.size, 1, none⟩ = some (.bool o0) := x0.at (show 1 < 5 by decide)
    have qx02 : w5.cell? ⟨w.heap.size, 2, none⟩ = some (.bool a0) := x0.at (show 2 < 5 by decide)
    have qx03 : w5.cell? ⟨w.heap.size, 3, none⟩ = some (.bool b0) := x0.at (show 3 < 5 by decide)
    have qx04 : w5.cell? ⟨w.heap.size, 4, none⟩ = some (.bool e0) := x0.at (show 4 < 5 by decide)
    go_upto_region 6 with (first | (go_at_call 12; (with_reducible refine (laws_toState m0 o0 a0 b0 e0 _).mono ?_); rintro e w6 ⟨rfl, p6⟩; have s6 := p6.size; have bel6 := bel5.trans (p6.mono bel5.size); clear x0; replace f1 := f1.below p6; replace y4 := y4.below p6; replace o2 := o2.below p6; clear p6 bel5) | (go_at_call 26; (with_reducible refine (ci _ _ _ o2.cells.ints).mono ?_); rintro e w7 ⟨rfl, p7⟩; have s7 := p7.size; have bel7 := bel6.trans (p7.mono bel6.size); replace f1 := f1.below p7; replace y4 := y4.below p7; replace o2 := o2.below p7; clear p7 bel6))
    clear qx00 qx01 qx02 qx03 qx04
    have y8 := own_new (lo := w7.heap.size) (hi := w7.heap.size + 1) w7 #[.int .i64 u0, .bool u1, .bool u2, .bool u3, .bool u4] 27 (Nat.le_refl _) (by omega)
    have hpp : Below w7.heap.size w7 (w7.alloc (Obj.cells #[.int .i64 u0, .bool u1, .bool u2, .bool u3, .bool u4] 27)) := Below.alloc (Below.refl _ _) (Nat.le_refl _) _
    generalize w7.alloc (Obj.cells #[.int .i64 u0, .bool u1, .bool u2, .bool u3, .bool u4] 27) = w8 at *
    have p8 := hpp
    have s8 := p8.size
    have bel8 := bel7.trans (p8.mono bel7.size)
    replace f1 := f1.below p8
    replace y4 := y4.below p8
    replace o2 := o2.below p8
    clear p8 bel7
    clear hpp
    have qy80 : w8.cell? ⟨w7.heap.size, 0, none⟩ = some (.int .i64 u0) := y8.at (show 0 < 5 by decide)
    have qy81 : w8.cell? ⟨w7.heap.size, 1, none⟩ = some (.bool u1) := y8.at (show 1 < 5 by decide)
    have qy82 : w8.cell? ⟨w7.heap.size, 2, none⟩ = some (.bool u2) := y8.at (show 2 < 5 by decide)
    have qy83 : w8.cell? ⟨w7.heap.size, 3, none⟩ = some (.bool u3) := y8.at (show 3 < 5 by decide)
    have qy84 : w8.cell? ⟨w7.heap.size, 4, none⟩ = some (.bool u4) := y8.at (show 4 < 5 by decide)
    have qy40 : w8.cell? ⟨w3.heap.size, 0, none⟩ = some (.int .i64 u0) := y4.at (show 0 < 5 by decide)
    have qy41 : w8.cell? ⟨w3.heap.size, 1, none⟩ = some (.bool u1) := y4.at (show 1 < 5 by decide)
    have qy42 : w8.cell? ⟨w3.heap.size, 2, none⟩ = some (.bool u2) := y4.at (show 2 < 5 by decide)
    have qy43 : w8.cell? ⟨w3.heap.size, 3, none⟩ = some (.bool u3) := y4.at (show 3 < 5 by decide)
    have qy44 : w8.cell? ⟨w3.heap.size, 4, none⟩ = some (.bool u4) := y4.at (show 4 < 5 by decide)
    go_wp2_with fail
    clear qy80
    clear qy81
    clear qy82
    clear qy83
    clear qy84
    clear qy40
    clear qy41
    clear qy42
    clear qy43
    clear qy44
    refine (laws_eqState_same _ _ _ _ _ _).mono ?_
    rintro e w9 ⟨rfl, p9⟩
    have s9 := p9.size
    have bel9 := bel8.trans (p9.mono bel8.size)
    replace f1 := f1.below p9
    clear y4
    replace o2 := o2.below p9
    clear y8
    clear p9 bel8
    go_wp2_with fail
    refine (laws_toInt64S_in a1 n1 c1 Z1 _ f1 hn1).mono ?_
    rintro e w10 ⟨d3, e3, rfl, o3, p10⟩
    have s10 := p10.size
    have bel10 := bel9.trans (p10.mono bel9.size)
    clear f1
    replace o2 := o2.below p10
    clear p10 bel9
    go_wp2_with fail
    refine (laws_eqInt64S_in _ _ _ _ _ _ _ o2.cells o3.cells hn1).mono ?_
    rintro e w11 ⟨rfl, p11⟩
    have s11 := p11.size
    have bel11 := bel10.trans (p11.mono bel10.size)
    clear o2
    clear o3
    clear p11 bel10
    go_wp2
    go_returns
    exact ⟨rfl, bel11⟩
  · go_enter Try.func7, Try.ntmps7
    go_wp2
    go_returns
    exact ⟨rfl, by go_grown⟩

end Go.Proofs.Ythoilgkhehemfaa
