/-
  The walks of laws: where a car is.
-/
import Derived.Test.YtlkcnflhofophaaKB2
import Derived.Test.YtlkcnflhofophaaKF
namespace Go.Proofs.Ytlkcnflhofophaa
open Go.RowKit
set_option linter.unusedVariables false
set_option linter.unusedSimpArgs false


set_option maxHeartbeats 4000000 in
theorem law_FnExactPlaceAtSecond (a0 : Option Addr) (n0 c0 : Nat) (Z0 : Nat → Int) (a1 : Option Addr) (n1 c1 : Nat) (S1 : Nat → Int) (T1 : Nat → Int) (x2 : Int) (w : World) (hz0 : IntsAt w a0 n0 Z0) (hmax0 : n0 ≤ 9223372036854775807) (hz1 : CellsIn 0 w.heap.size w a1 (2 * n1) (psV S1 T1)) (hmax1 : n1 ≤ 9223372036854775807) :
    Calls Try.prog 10 #[.slice a0 n0 c0, .slice a1 n1 c1, .int .i64 x2] w fun e w' => e = .returned (.bool true) ∧ Below w.heap.size w w' := by
  by_cases hn0 : n0 ≤ 1048576
  · by_cases hn1 : n1 ≤ 1048576
    · have cs := fun A0 C0 A1 C1 W h0 h1 => spec_PlaceAtSecond A0 n0 C0 Z0 A1 n1 C1 S1 T1 x2 W h0 h1 hn0 hn1
      have ci := fun A0 C0 A1 C1 W h0 h1 => impl_PlaceAtSecond A0 n0 C0 Z0 A1 n1 C1 S1 T1 x2 W h0 h1 hn0 hn1
      generalize placeR Z0 n0 S1 T1 n1 x2 = r0 at *
      generalize placeC Z0 n0 S1 T1 n1 x2 = r1 at *
      go_enter Try.func10, Try.ntmps10
      have b0 := Below.refl w.heap.size w
      have f0 := hz0.cells
      clear hz0
      have f1 := hz1
      clear hz1
      go_wp2_with fail
      refine (laws_szPassingS_ok a1 n1 c1 _ hn1).mono ?_
      rintro e w' ⟨rfl, rfl⟩
      go_wp2_with fail
      refine (laws_toInt64S_in a0 n0 c0 Z0 _ f0 hn0).mono ?_
      rintro e w1 ⟨d1, e1, rfl, o1, p1⟩
      have s1 := p1.size
      have b1 := b0.trans (p1.mono b0.size)
      replace f0 := f0.below p1
      replace f1 := f1.below p1
      clear p1 b0
      go_wp2_with fail
      refine (laws_toPassingS_in a1 n1 c1 S1 T1 _ f1 hn1).mono ?_
      rintro e w2 ⟨d2, e2, rfl, o2, p2⟩
      have s2 := p2.size
      have b2 := b1.trans (p2.mono b1.size)
      replace f0 := f0.below p2
      replace f1 := f1.below p2
      replace o1 := o1.below p2
      clear p2 b1
      go_wp2_with fail
      refine (cs _ _ _ _ _ o1.cells.ints o2.cells.pass).mono ?_
      rintro e w3 ⟨rfl, p3⟩
      have s3 := p3.size
      have b3 := b2.trans (p3.mono b2.size)
      replace f0 := f0.below p3
      replace f1 := f1.below p3
      clear o1
      clear o2
      clear p3 b2
      go_wp2_with fail
      refine (laws_toInt64S_in a0 n0 c0 Z0 _ f0 hn0).mono ?_
      rintro e w4 ⟨d3, e3, rfl, o3, p4⟩
      have s4 := p4.size
      have b4 := b3.trans (p4.mono b3.size)
      replace f0 := f0.below p4
      replace f1 := f1.below p4
      clear p4 b3
      go_wp2_with fail
      refine (laws_toPassingS_in a1 n1 c1 S1 T1 _ f1 hn1).mono ?_
      rintro e w5 ⟨d4, e4, rfl, o4, p5⟩
      have s5 := p5.size
      have b5 := b4.trans (p5.mono b4.size)
      replace f0 := f0.below p5
      replace f1 := f1.below p5
      replace o3 := o3.below p5
      clear p5 b4
      go_wp2_with fail
      refine (ci _ _ _ _ _ o3.cells.ints o4.cells.pass).mono ?_
      rintro e w6 ⟨rfl, p6⟩
      have s6 := p6.size
      have b6 := b5.trans (p6.mono b5.size)
      replace f0 := f0.below p6
      replace f1 := f1.below p6
      replace o3 := o3.below p6
      replace o4 := o4.below p6
      clear p6 b5
      go_wp2_with fail
      refine (laws_toInt64S_in a0 n0 c0 Z0 _ f0 hn0).mono ?_
      rintro e w7 ⟨d5, e5, rfl, o5, p7⟩
      have s7 := p7.size
      have b7 := b6.trans (p7.mono b6.size)
      clear f0
      replace f1 := f1.below p7
      replace o3 := o3.below p7
      replace o4 := o4.below p7
      clear p7 b6
      go_wp2_with fail
      refine (laws_eqInt64S_in _ _ _ _ _ _ _ o3.cells o5.cells hn0).mono ?_
      rintro e w8 ⟨rfl, p8⟩
      have s8 := p8.size
      have b8 := b7.trans (p8.mono b7.size)
      replace f1 := f1.below p8
      clear o3
      replace o4 := o4.below p8
      clear o5
      clear p8 b7
      go_wp2_with fail
      refine (laws_toPassingS_in a1 n1 c1 S1 T1 _ f1 hn1).mono ?_
      rintro e w9 ⟨d6, e6, rfl, o6, p9⟩
      have s9 := p9.size
      have b9 := b8.trans (p9.mono b8.size)
      clear f1
      replace o4 := o4.below p9
      clear p9 b8
      go_wp2_with fail
      refine (laws_eqPassingS_in _ _ _ _ _ _ _ _ o4.cells o6.cells hn1).mono ?_
      rintro e w10 ⟨rfl, p10⟩
      have s10 := p10.size
      have b10 := b9.trans (p10.mono b9.size)
      clear o4
      clear o6
      clear p10 b9
      go_wp2
      go_returns
      exact ⟨rfl, b10⟩
    · go_enter Try.func10, Try.ntmps10
      go_wp2_with (first | (go_at_call 18; refine (laws_szPassingS_no a1 n1 c1 _ hn1 hmax1).mono ?_; rintro e w' ⟨rfl, rfl⟩))
      go_returns
      exact ⟨rfl, by go_grown⟩
  · go_enter Try.func10, Try.ntmps10
    go_wp2
    go_returns
    exact ⟨rfl, by go_grown⟩

end Go.Proofs.Ytlkcnflhofophaa
