/-
  The walks of laws: the times in which too few are there.
-/
import Derived.Test.YtngeaojimehlbaaAl
import Derived.Test.YtngeaojimehlbaaKW2
import Derived.Test.YtngeaojimehlbaaKA3
import Derived.Test.YtngeaojimehlbaaNe
namespace Go.Proofs.Ytngeaojimehlbaa
open Go.RowKit
set_option linter.unusedVariables false
set_option linter.unusedSimpArgs false


set_option maxHeartbeats 4000000 in
theorem law_FnExactAloneMinutes (a0 : Option Addr) (n0 c0 : Nat) (I0 : Nat → ByteArray) (F0 : Nat → Int) (U0 : Nat → Int) (x1 : Int) (x2 : Int) (x3 : Int) (w : World) (hz0 : CellsIn 0 w.heap.size w a0 (3 * n0) (wkV I0 F0 U0)) (hmax0 : n0 ≤ 9223372036854775807 ∧ ∀ k, k < n0 → (I0 k).size ≤ 9223372036854775807) :
    Calls Try.prog 3 #[.slice a0 n0 c0, .int .i64 x1, .int .i64 x2, .int .i64 x3] w fun e w' => e = .returned (.bool true) ∧ Below w.heap.size w w' := by
  by_cases hn0 : szW I0 n0 ≤ 1048576
  · have cs := fun A0 C0 W h0 => spec_AloneMinutes A0 n0 C0 I0 F0 U0 x1 x2 x3 W h0 hn0
    have ci := fun A0 C0 W h0 => impl_AloneMinutes A0 n0 C0 I0 F0 U0 x1 x2 x3 W h0 hn0
    have hL0 : (alR I0 F0 U0 n0 x1 x2 x3).length ≤ 1048576 := alR_len
    generalize alR I0 F0 U0 n0 x1 x2 x3 = r0 at *
    generalize alC I0 F0 U0 n0 x1 x2 x3 = r1 at *
    go_enter Try.func3, Try.ntmps3
    have bel0 := Below.refl w.heap.size w
    have f0 := (hz0)
    clear hz0
    go_wp2_with fail
    refine (laws_szWorkerS_ok a0 n0 c0 I0 F0 U0 _ f0 hmax0 hn0).mono ?_
    rintro e w1 ⟨rfl, p1⟩
    have s1 := p1.size
    have bel1 := bel0.trans (p1.mono bel0.size)
    replace f0 := f0.below p1
    clear p1 bel0
    go_wp2_with fail
    refine (laws_toWorkerS_in a0 n0 c0 I0 F0 U0 _ f0 hn0).mono ?_
    rintro e w2 ⟨d1, e1, rfl, o1, p2⟩
    have s2 := p2.size
    have bel2 := bel1.trans (p2.mono bel1.size)
    replace f0 := f0.below p2
    clear p2 bel1
    go_wp2_with fail
    refine (cs _ _ _ o1.cells.workers).mono ?_
    rintro e w3 ⟨A3, C3, rfl, g3, p3⟩
    have s3 := p3.size
    have bel3 := bel2.trans (p3.mono bel2.size)
    replace f0 := f0.below p3
    clear o1
    clear p3 bel2
    go_wp2_with fail
    refine (laws_toWorkerS_in a0 n0 c0 I0 F0 U0 _ f0 hn0).mono ?_
    rintro e w4 ⟨d2, e2, rfl, o2, p4⟩
    have s4 := p4.size
    have bel4 := bel3.trans (p4.mono bel3.size)
    replace f0 := f0.below p4
    replace g3 := g3.below p4
    clear p4 bel3
    go_wp2_with fail
    refine (ci _ _ _ o2.cells.workers).mono ?_
    rintro e w5 ⟨A5, C5, rfl, g5, p5⟩
    have s5 := p5.size
    have bel5 := bel4.trans (p5.mono bel4.size)
    replace f0 := f0.below p5
    replace g3 := g3.below p5
    replace o2 := o2.below p5
    clear p5 bel4
    go_wp2_with fail
    refine (laws_eqInt64SS_in _ _ _ _ _ _ _ g5.cells g3.cells hL0).mono ?_
    rintro e w6 ⟨rfl, p6⟩
    have s6 := p6.size
    have bel6 := bel5.trans (p6.mono bel5.size)
    replace f0 := f0.below p6
    replace g3 := g3.below p6
    replace o2 := o2.below p6
    replace g5 := g5.below p6
    clear p6 bel5
    go_wp2_with fail
    refine (laws_toWorkerS_in a0 n0 c0 I0 F0 U0 _ f0 hn0).mono ?_
    rintro e w7 ⟨d3, e3, rfl, o3, p7⟩
    have s7 := p7.size
    have bel7 := bel6.trans (p7.mono bel6.size)
    replace f0 := f0.below p7
    replace g3 := g3.below p7
    replace o2 := o2.below p7
    replace g5 := g5.below p7
    clear p7 bel6
    go_wp2_with fail
    refine (laws_eqWorkerS_in _ _ _ _ _ _ _ _ _ o2.cells o3.cells hn0).mono ?_
    rintro e w8 ⟨rfl, p8⟩
    have s8 := p8.size
    have bel8 := bel7.trans (p8.mono bel7.size)
    replace f0 := f0.below p8
    replace g3 := g3.below p8
    replace o2 := o2.below p8
    replace g5 := g5.below p8
    clear o3
    clear p8 bel7
    go_wp2_with fail
    refine (laws_markWorkerS _ _ _ _ _ _ o2 hn0 (by omega) (by omega)).mono ?_
    clear o2
    rintro e w9 ⟨rfl, o2, p9⟩
    have s9 := p9.size
    have bel9 := bel8.trans (p9.below (by omega) bel8.size)
    replace f0 := f0.keep p9 (by omega)
    replace g3 := g3.keep p9 (by omega)
    replace g5 := g5.keep p9 (by omega)
    clear p9 bel8
    go_wp2_with fail
    refine (laws_eqInt64SS_in _ _ _ _ _ _ _ g5.cells g3.cells hL0).mono ?_
    rintro e w10 ⟨rfl, p10⟩
    have s10 := p10.size
    have bel10 := bel9.trans (p10.mono bel9.size)
    replace f0 := f0.below p10
    replace g3 := g3.below p10
    clear o2
    replace g5 := g5.below p10
    clear p10 bel9
    go_wp2_with fail
    refine (laws_markInt64SS _ _ _ _ _ _ g5 hL0 (by omega) (by omega)).mono ?_
    clear g5
    rintro e w11 ⟨rfl, g5, p11⟩
    have s11 := p11.size
    have bel11 := bel10.trans (p11.below (by omega) bel10.size)
    replace f0 := f0.keep p11 (by omega)
    replace g3 := g3.keep p11 (by omega)
    clear p11 bel10
    go_wp2_with fail
    refine (laws_heldInt64SS _ _ _ _ _ g5.cells hL0 (by omega) (by omega)).mono ?_
    rintro e w' ⟨rfl, rfl⟩
    go_wp2_with fail
    refine (laws_toWorkerS_in a0 n0 c0 I0 F0 U0 _ f0 hn0).mono ?_
    rintro e w12 ⟨d4, e4, rfl, o4, p12⟩
    have s12 := p12.size
    have bel12 := bel11.trans (p12.mono bel11.size)
    clear f0
    replace g3 := g3.below p12
    replace g5 := g5.below p12
    clear p12 bel11
    go_wp2_with fail
    refine (ci _ _ _ o4.cells.workers).mono ?_
    rintro e w13 ⟨A13, C13, rfl, g13, p13⟩
    have s13 := p13.size
    have bel13 := bel12.trans (p13.mono bel12.size)
    replace g3 := g3.below p13
    replace g5 := g5.below p13
    clear o4
    clear p13 bel12
    go_wp2_with fail
    refine (laws_eqInt64SS_in _ _ _ _ _ _ _ g13.cells g3.cells hL0).mono ?_
    rintro e w14 ⟨rfl, p14⟩
    have s14 := p14.size
    have bel14 := bel13.trans (p14.mono bel13.size)
    clear g3
    replace g5 := g5.below p14
    clear g13
    clear p14 bel13
    go_wp2_with fail
    refine (laws_heldInt64SS _ _ _ _ _ g5.cells hL0 (by omega) (by omega)).mono ?_
    rintro e w' ⟨rfl, rfl⟩
    go_wp2
    go_returns
    exact ⟨rfl, bel14⟩
  · go_enter Try.func3, Try.ntmps3
    go_wp2_with (first | (go_at_call 6; refine (laws_szWorkerS_no a0 n0 c0 I0 F0 U0 _ hz0 hmax0 hn0).mono ?_; rintro e w' ⟨rfl, hb⟩))
    go_returns
    exact ⟨rfl, hb⟩

end Go.Proofs.Ytngeaojimehlbaa
