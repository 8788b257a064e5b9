/-
  The walks of laws: the odd reading.
-/
import Derived.Test.YtngeaojimehlbaaOd
import Derived.Test.YtngeaojimehlbaaKF
namespace Go.Proofs.Ytngeaojimehlbaa
open Go.RowKit
set_option linter.unusedVariables false
set_option linter.unusedSimpArgs false


set_option maxHeartbeats 4000000 in
theorem law_FnExactOddReading (a0 : Option Addr) (n0 c0 : Nat) (Z0 : Nat → Int) (x1 : Int) (w : World) (hz0 : IntsAt w a0 n0 Z0) (hmax0 : n0 ≤ 9223372036854775807) :
    Calls Try.prog 4 #[.slice a0 n0 c0, .int .i64 x1] w fun e w' => e = .returned (.bool true) ∧ Below w.heap.size w w' := by
  by_cases hn0 : n0 ≤ 1048576
  · have cs := fun A0 C0 W h0 => spec_OddReading A0 n0 C0 Z0 x1 W h0 hn0
    have ci := fun A0 (C0 : Nat) W h0 => impl_OddReading A0 n0 n0 Z0 x1 W h0 hn0 (Nat.le_refl _) (by omega)
    generalize oddV Z0 n0 x1 = r0 at *
    generalize oddC Z0 n0 x1 = r1 at *
    go_enter Try.func4, Try.ntmps4
    have bel0 := Below.refl w.heap.size w
    have f0 := (hz0.cells)
    clear hz0
    go_wp2_with fail
    refine (laws_toInt64S_n a0 n0 c0 Z0 _ f0 hn0).mono ?_
    rintro e w1 ⟨d1, rfl, o1, p1⟩
    have s1 := p1.size
    have bel1 := bel0.trans (p1.mono bel0.size)
    replace f0 := f0.below p1
    clear p1 bel0
    go_wp2_with fail
    refine (cs _ _ _ o1.cells.ints).mono ?_
    rintro e w2 ⟨rfl, p2⟩
    have s2 := p2.size
    have bel2 := bel1.trans (p2.mono bel1.size)
    replace f0 := f0.below p2
    clear o1
    clear p2 bel1
    go_wp2_with fail
    refine (laws_toInt64S_n a0 n0 c0 Z0 _ f0 hn0).mono ?_
    rintro e w3 ⟨d2, rfl, o2, p3⟩
    have s3 := p3.size
    have bel3 := bel2.trans (p3.mono bel2.size)
    replace f0 := f0.below p3
    clear p3 bel2
    go_wp2_with fail
    refine (ci _ 0 _ o2.cells.ints).mono ?_
    rintro e w4 ⟨rfl, p4⟩
    have s4 := p4.size
    have bel4 := bel3.trans (p4.mono bel3.size)
    replace f0 := f0.below p4
    replace o2 := o2.below p4
    clear p4 bel3
    go_wp2_with fail
    refine (laws_toInt64S_n a0 n0 c0 Z0 _ f0 hn0).mono ?_
    rintro e w5 ⟨d3, rfl, o3, p5⟩
    have s5 := p5.size
    have bel5 := bel4.trans (p5.mono bel4.size)
    clear f0
    replace o2 := o2.below p5
    clear p5 bel4
    go_wp2_with fail
    refine (laws_eqInt64S_in _ _ _ _ _ _ _ o2.cells o3.cells hn0).mono ?_
    rintro e w6 ⟨rfl, p6⟩
    have s6 := p6.size
    have bel6 := bel5.trans (p6.mono bel5.size)
    clear o2
    clear o3
    clear p6 bel5
    go_wp2
    go_returns
    exact ⟨rfl, bel6⟩
  · go_enter Try.func4, Try.ntmps4
    go_wp2
    go_returns
    exact ⟨rfl, by go_grown⟩

end Go.Proofs.Ytngeaojimehlbaa
