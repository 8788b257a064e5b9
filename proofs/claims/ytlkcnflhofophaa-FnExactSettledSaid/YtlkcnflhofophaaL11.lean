/-
  The walks of laws: settled numbers.
-/
import Derived.Test.YtlkcnflhofophaaKG
namespace Go.Proofs.Ytlkcnflhofophaa
open Go.RowKit
set_option linter.unusedVariables false
set_option linter.unusedSimpArgs false


set_option maxHeartbeats 4000000 in
theorem law_FnExactSettled (a0 : Option Addr) (n0 c0 : Nat) (Z0 : Nat → Int) (x1 : Int) (w : World) (hz0 : IntsAt w a0 n0 Z0) (hmax0 : n0 ≤ 9223372036854775807) :
    Calls Try.prog 6 #[.slice a0 n0 c0, .int .i64 x1] w fun e w' => e = .returned (.bool true) ∧ Below w.heap.size w w' := by
  by_cases hn0 : n0 ≤ 1048576
  · have cs := fun A0 C0 W h0 => spec_Settled A0 n0 C0 Z0 x1 W h0 hn0
    have ci := fun A0 C0 W h0 => impl_Settled A0 n0 C0 Z0 x1 W h0 hn0
    have hL0 : (settledL Z0 x1 n0).length ≤ 1048576 := settledL_len hn0
    generalize settledL Z0 x1 n0 = r0 at *
    generalize settledCode Z0 x1 n0 = r1 at *
    go_enter Try.func6, Try.ntmps6
    have b0 := Below.refl w.heap.size w
    have f0 := hz0.cells
    clear hz0
    go_wp2_with fail
    refine (laws_toInt64S_in a0 n0 c0 Z0 _ f0 hn0).mono ?_
    rintro e w1 ⟨d1, e1, rfl, o1, p1⟩
    have s1 := p1.size
    have b1 := b0.trans (p1.mono b0.size)
    replace f0 := f0.below p1
    clear p1 b0
    go_wp2_with fail
    refine (cs _ _ _ o1.cells.ints).mono ?_
    rintro e w2 ⟨A2, C2, rfl, g2, p2⟩
    have s2 := p2.size
    have b2 := b1.trans (p2.mono b1.size)
    replace f0 := f0.below p2
    clear o1
    clear p2 b1
    go_wp2_with fail
    refine (laws_toInt64S_in a0 n0 c0 Z0 _ f0 hn0).mono ?_
    rintro e w3 ⟨d2, e2, rfl, o2, p3⟩
    have s3 := p3.size
    have b3 := b2.trans (p3.mono b2.size)
    replace f0 := f0.below p3
    replace g2 := g2.below p3
    clear p3 b2
    go_wp2_with fail
    refine (ci _ _ _ o2.cells.ints).mono ?_
    rintro e w4 ⟨A4, C4, rfl, g4, p4⟩
    have s4 := p4.size
    have b4 := b3.trans (p4.mono b3.size)
    replace f0 := f0.below p4
    replace g2 := g2.below p4
    replace o2 := o2.below p4
    clear p4 b3
    go_wp2_with fail
    refine (laws_eqInt64S_in _ _ _ _ _ _ _ g4.cells g2.cells hL0).mono ?_
    rintro e w5 ⟨rfl, p5⟩
    have s5 := p5.size
    have b5 := b4.trans (p5.mono b4.size)
    replace f0 := f0.below p5
    replace g2 := g2.below p5
    replace o2 := o2.below p5
    replace g4 := g4.below p5
    clear p5 b4
    go_wp2_with fail
    refine (laws_toInt64S_in a0 n0 c0 Z0 _ f0 hn0).mono ?_
    rintro e w6 ⟨d3, e3, rfl, o3, p6⟩
    have s6 := p6.size
    have b6 := b5.trans (p6.mono b5.size)
    replace f0 := f0.below p6
    replace g2 := g2.below p6
    replace o2 := o2.below p6
    replace g4 := g4.below p6
    clear p6 b5
    go_wp2_with fail
    refine (laws_eqInt64S_in _ _ _ _ _ _ _ o2.cells o3.cells hn0).mono ?_
    rintro e w7 ⟨rfl, p7⟩
    have s7 := p7.size
    have b7 := b6.trans (p7.mono b6.size)
    replace f0 := f0.below p7
    replace g2 := g2.below p7
    replace o2 := o2.below p7
    replace g4 := g4.below p7
    clear o3
    clear p7 b6
    go_wp2_with fail
    refine (laws_markInt64S _ _ _ _ _ _ o2 hn0 (by omega) (by omega)).mono ?_
    clear o2
    rintro e w8 ⟨rfl, o2, p8⟩
    have s8 := p8.size
    have b8 := b7.trans (p8.below (by omega) b7.size)
    replace f0 := f0.keep p8 (by omega)
    replace g2 := g2.keep p8 (by omega)
    replace g4 := g4.keep p8 (by omega)
    clear p8 b7
    go_wp2_with fail
    refine (laws_eqInt64S_in _ _ _ _ _ _ _ g4.cells g2.cells hL0).mono ?_
    rintro e w9 ⟨rfl, p9⟩
    have s9 := p9.size
    have b9 := b8.trans (p9.mono b8.size)
    replace f0 := f0.below p9
    replace g2 := g2.below p9
    clear o2
    replace g4 := g4.below p9
    clear p9 b8
    go_wp2_with fail
    refine (laws_markInt64S _ _ _ _ _ _ g4 hL0 (by omega) (by omega)).mono ?_
    clear g4
    rintro e w10 ⟨rfl, g4, p10⟩
    have s10 := p10.size
    have b10 := b9.trans (p10.below (by omega) b9.size)
    replace f0 := f0.keep p10 (by omega)
    replace g2 := g2.keep p10 (by omega)
    clear p10 b9
    go_wp2_with fail
    refine (laws_heldInt64S _ _ _ _ _ g4.cells hL0 (by omega) (by omega)).mono ?_
    rintro e w' ⟨rfl, rfl⟩
    go_wp2_with fail
    refine (laws_toInt64S_in a0 n0 c0 Z0 _ f0 hn0).mono ?_
    rintro e w11 ⟨d4, e4, rfl, o4, p11⟩
    have s11 := p11.size
    have b11 := b10.trans (p11.mono b10.size)
    clear f0
    replace g2 := g2.below p11
    replace g4 := g4.below p11
    clear p11 b10
    go_wp2_with fail
    refine (ci _ _ _ o4.cells.ints).mono ?_
    rintro e w12 ⟨A12, C12, rfl, g12, p12⟩
    have s12 := p12.size
    have b12 := b11.trans (p12.mono b11.size)
    replace g2 := g2.below p12
    replace g4 := g4.below p12
    clear o4
    clear p12 b11
    go_wp2_with fail
    refine (laws_eqInt64S_in _ _ _ _ _ _ _ g12.cells g2.cells hL0).mono ?_
    rintro e w13 ⟨rfl, p13⟩
    have s13 := p13.size
    have b13 := b12.trans (p13.mono b12.size)
    clear g2
    replace g4 := g4.below p13
    clear g12
    clear p13 b12
    go_wp2_with fail
    refine (laws_heldInt64S _ _ _ _ _ g4.cells hL0 (by omega) (by omega)).mono ?_
    rintro e w' ⟨rfl, rfl⟩
    go_wp2
    go_returns
    exact ⟨rfl, b13⟩
  · go_enter Try.func6, Try.ntmps6
    go_wp2
    go_returns
    exact ⟨rfl, by go_grown⟩

end Go.Proofs.Ytlkcnflhofophaa
