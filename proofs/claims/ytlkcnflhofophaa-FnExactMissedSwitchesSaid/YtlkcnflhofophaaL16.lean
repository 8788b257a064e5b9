/-
  The walks of laws: missed switches.
-/
import Derived.Test.YtlkcnflhofophaaKC2
import Derived.Test.YtlkcnflhofophaaKF
namespace Go.Proofs.Ytlkcnflhofophaa
open Go.RowKit
set_option linter.unusedVariables false
set_option linter.unusedSimpArgs false


set_option maxHeartbeats 4000000 in
theorem law_FnExactMissedSwitches (a0 : Option Addr) (n0 c0 : Nat) (Z0 : Nat → Int) (a1 : Option Addr) (n1 c1 : Nat) (S1 : Nat → Int) (T1 : Nat → Int) (w : World) (hz0 : IntsAt w a0 n0 Z0) (hmax0 : n0 ≤ 9223372036854775807) (hz1 : CellsIn 0 w.heap.size w a1 (2 * n1) (psV S1 T1)) (hmax1 : n1 ≤ 9223372036854775807) :
    Calls Try.prog 11 #[.slice a0 n0 c0, .slice a1 n1 c1] w fun e w' => e = .returned (.bool true) ∧ Below w.heap.size w w' := by
  by_cases hn0 : n0 ≤ 1048576
  · by_cases hn1 : n1 ≤ 1048576
    · have cs := fun A0 C0 A1 C1 W h0 h1 => spec_MissedSwitches A0 n0 C0 Z0 A1 n1 C1 S1 T1 W h0 h1 hn0 hn1
      have ci := fun A0 C0 A1 C1 W h0 h1 => impl_MissedSwitches A0 n0 C0 Z0 A1 n1 C1 S1 T1 W h0 h1 hn0 hn1
      have hL0 : (okL (passOk Z0 n0 S1 T1 n1) (missA S1 n0 n1)).length ≤ 1048576 := okL_len (Nat.le_trans (filt_len _ _) (by omega))
      generalize okL (passOk Z0 n0 S1 T1 n1) (missA S1 n0 n1) = r0 at *
      generalize okC (passOk Z0 n0 S1 T1 n1) 1 = r1 at *
      go_enter Try.func11, Try.ntmps11
      have b0 := Below.refl w.heap.size w
      have f0 := hz0.cells
      clear hz0
      have f1 := hz1
      clear hz1
      go_wp2_with fail
      refine (laws_szPassingS_ok a1 n1 c1 _ hn1).mono ?_
      rintro e w' ⟨rfl, rfl⟩
      go_wp2_with fail
      refine (laws_toInt64S_in a0 n0 c0 Z0 _ f0 hn0).mono ?_
      rintro e w1 ⟨d1, e1, rfl, o1, p1⟩
      have s1 := p1.size
      have b1 := b0.trans (p1.mono b0.size)
      replace f0 := f0.below p1
      replace f1 := f1.below p1
      clear p1 b0
      go_wp2_with fail
      refine (laws_toPassingS_in a1 n1 c1 S1 T1 _ f1 hn1).mono ?_
      rintro e w2 ⟨d2, e2, rfl, o2, p2⟩
      have s2 := p2.size
      have b2 := b1.trans (p2.mono b1.size)
      replace f0 := f0.below p2
      replace f1 := f1.below p2
      replace o1 := o1.below p2
      clear p2 b1
      go_wp2_with fail
      refine (cs _ _ _ _ _ o1.cells.ints o2.cells.pass).mono ?_
      rintro e w3 ⟨A3, C3, rfl, g3, p3⟩
      have s3 := p3.size
      have b3 := b2.trans (p3.mono b2.size)
      replace f0 := f0.below p3
      replace f1 := f1.below p3
      clear o1
      clear o2
      clear p3 b2
      go_wp2_with fail
      refine (laws_toInt64S_in a0 n0 c0 Z0 _ f0 hn0).mono ?_
      rintro e w4 ⟨d3, e3, rfl, o3, p4⟩
      have s4 := p4.size
      have b4 := b3.trans (p4.mono b3.size)
      replace f0 := f0.below p4
      replace f1 := f1.below p4
      replace g3 := g3.below p4
      clear p4 b3
      go_wp2_with fail
      refine (laws_toPassingS_in a1 n1 c1 S1 T1 _ f1 hn1).mono ?_
      rintro e w5 ⟨d4, e4, rfl, o4, p5⟩
      have s5 := p5.size
      have b5 := b4.trans (p5.mono b4.size)
      replace f0 := f0.below p5
      replace f1 := f1.below p5
      replace g3 := g3.below p5
      replace o3 := o3.below p5
      clear p5 b4
      go_wp2_with fail
      refine (ci _ _ _ _ _ o3.cells.ints o4.cells.pass).mono ?_
      rintro e w6 ⟨A6, C6, rfl, g6, p6⟩
      have s6 := p6.size
      have b6 := b5.trans (p6.mono b5.size)
      replace f0 := f0.below p6
      replace f1 := f1.below p6
      replace g3 := g3.below p6
      replace o3 := o3.below p6
      replace o4 := o4.below p6
      clear p6 b5
      go_wp2_with fail
      refine (laws_eqInt64S_in _ _ _ _ _ _ _ g6.cells g3.cells hL0).mono ?_
      rintro e w7 ⟨rfl, p7⟩
      have s7 := p7.size
      have b7 := b6.trans (p7.mono b6.size)
      replace f0 := f0.below p7
      replace f1 := f1.below p7
      replace g3 := g3.below p7
      replace o3 := o3.below p7
      replace o4 := o4.below p7
      replace g6 := g6.below p7
      clear p7 b6
      go_wp2_with fail
      refine (laws_toInt64S_in a0 n0 c0 Z0 _ f0 hn0).mono ?_
      rintro e w8 ⟨d5, e5, rfl, o5, p8⟩
      have s8 := p8.size
      have b8 := b7.trans (p8.mono b7.size)
      replace f0 := f0.below p8
      replace f1 := f1.below p8
      replace g3 := g3.below p8
      replace o3 := o3.below p8
      replace o4 := o4.below p8
      replace g6 := g6.below p8
      clear p8 b7
      go_wp2_with fail
      refine (laws_eqInt64S_in _ _ _ _ _ _ _ o3.cells o5.cells hn0).mono ?_
      rintro e w9 ⟨rfl, p9⟩
      have s9 := p9.size
      have b9 := b8.trans (p9.mono b8.size)
      replace f0 := f0.below p9
      replace f1 := f1.below p9
      replace g3 := g3.below p9
      replace o3 := o3.below p9
      replace o4 := o4.below p9
      replace g6 := g6.below p9
      clear o5
      clear p9 b8
      go_wp2_with fail
      refine (laws_toPassingS_in a1 n1 c1 S1 T1 _ f1 hn1).mono ?_
      rintro e w10 ⟨d6, e6, rfl, o6, p10⟩
      have s10 := p10.size
      have b10 := b9.trans (p10.mono b9.size)
      replace f0 := f0.below p10
      replace f1 := f1.below p10
      replace g3 := g3.below p10
      replace o3 := o3.below p10
      replace o4 := o4.below p10
      replace g6 := g6.below p10
      clear p10 b9
      go_wp2_with fail
      refine (laws_eqPassingS_in _ _ _ _ _ _ _ _ o4.cells o6.cells hn1).mono ?_
      rintro e w11 ⟨rfl, p11⟩
      have s11 := p11.size
      have b11 := b10.trans (p11.mono b10.size)
      replace f0 := f0.below p11
      replace f1 := f1.below p11
      replace g3 := g3.below p11
      replace o3 := o3.below p11
      replace o4 := o4.below p11
      replace g6 := g6.below p11
      clear o6
      clear p11 b10
      go_wp2_with fail
      refine (laws_markInt64S _ _ _ _ _ _ o3 hn0 (by omega) (by omega)).mono ?_
      clear o3
      rintro e w12 ⟨rfl, o3, p12⟩
      have s12 := p12.size
      have b12 := b11.trans (p12.below (by omega) b11.size)
      replace f0 := f0.keep p12 (by omega)
      replace f1 := f1.keep p12 (by omega)
      replace g3 := g3.keep p12 (by omega)
      replace o4 := o4.keep p12 (by omega)
      replace g6 := g6.keep p12 (by omega)
      clear p12 b11
      go_wp2_with fail
      refine (laws_markPassingS _ _ _ _ _ _ o4 hn1 (by omega) (by omega)).mono ?_
      clear o4
      rintro e w13 ⟨rfl, o4, p13⟩
      have s13 := p13.size
      have b13 := b12.trans (p13.below (by omega) b12.size)
      replace f0 := f0.keep p13 (by omega)
      replace f1 := f1.keep p13 (by omega)
      replace g3 := g3.keep p13 (by omega)
      clear o3
      replace g6 := g6.keep p13 (by omega)
      clear p13 b12
      go_wp2_with fail
      refine (laws_eqInt64S_in _ _ _ _ _ _ _ g6.cells g3.cells hL0).mono ?_
      rintro e w14 ⟨rfl, p14⟩
      have s14 := p14.size
      have b14 := b13.trans (p14.mono b13.size)
      replace f0 := f0.below p14
      replace f1 := f1.below p14
      replace g3 := g3.below p14
      clear o4
      replace g6 := g6.below p14
      clear p14 b13
      go_wp2_with fail
      refine (laws_markInt64S _ _ _ _ _ _ g6 hL0 (by omega) (by omega)).mono ?_
      clear g6
      rintro e w15 ⟨rfl, g6, p15⟩
      have s15 := p15.size
      have b15 := b14.trans (p15.below (by omega) b14.size)
      replace f0 := f0.keep p15 (by omega)
      replace f1 := f1.keep p15 (by omega)
      replace g3 := g3.keep p15 (by omega)
      clear p15 b14
      go_wp2_with fail
      refine (laws_heldInt64S _ _ _ _ _ g6.cells hL0 (by omega) (by omega)).mono ?_
      rintro e w' ⟨rfl, rfl⟩
      go_wp2_with fail
      refine (laws_toInt64S_in a0 n0 c0 Z0 _ f0 hn0).mono ?_
      rintro e w16 ⟨d7, e7, rfl, o7, p16⟩
      have s16 := p16.size
      have b16 := b15.trans (p16.mono b15.size)
      clear f0
      replace f1 := f1.below p16
      replace g3 := g3.below p16
      replace g6 := g6.below p16
      clear p16 b15
      go_wp2_with fail
      refine (laws_toPassingS_in a1 n1 c1 S1 T1 _ f1 hn1).mono ?_
      rintro e w17 ⟨d8, e8, rfl, o8, p17⟩
      have s17 := p17.size
      have b17 := b16.trans (p17.mono b16.size)
      clear f1
      replace g3 := g3.below p17
      replace g6 := g6.below p17
      replace o7 := o7.below p17
      clear p17 b16
      go_wp2_with fail
      refine (ci _ _ _ _ _ o7.cells.ints o8.cells.pass).mono ?_
      rintro e w18 ⟨A18, C18, rfl, g18, p18⟩
      have s18 := p18.size
      have b18 := b17.trans (p18.mono b17.size)
      replace g3 := g3.below p18
      replace g6 := g6.below p18
      clear o7
      clear o8
      clear p18 b17
      go_wp2_with fail
      refine (laws_eqInt64S_in _ _ _ _ _ _ _ g18.cells g3.cells hL0).mono ?_
      rintro e w19 ⟨rfl, p19⟩
      have s19 := p19.size
      have b19 := b18.trans (p19.mono b18.size)
      clear g3
      replace g6 := g6.below p19
      clear g18
      clear p19 b18
      go_wp2_with fail
      refine (laws_heldInt64S _ _ _ _ _ g6.cells hL0 (by omega) (by omega)).mono ?_
      rintro e w' ⟨rfl, rfl⟩
      go_wp2
      go_returns
      exact ⟨rfl, b19⟩
    · go_enter Try.func11, Try.ntmps11
      go_wp2_with (first | (go_at_call 18; refine (laws_szPassingS_no a1 n1 c1 _ hn1 hmax1).mono ?_; rintro e w' ⟨rfl, rfl⟩))
      go_returns
      exact ⟨rfl, by go_grown⟩
  · go_enter Try.func11, Try.ntmps11
    go_wp2
    go_returns
    exact ⟨rfl, by go_grown⟩

end Go.Proofs.Ytlkcnflhofophaa
