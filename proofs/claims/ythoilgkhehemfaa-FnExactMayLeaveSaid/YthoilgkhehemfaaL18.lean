/-
  The walks of laws: whether cars may leave.
-/
import Derived.Test.YthoilgkhehemfaaKE2
import Derived.Test.YthoilgkhehemfaaKF
namespace Go.Proofs.Ythoilgkhehemfaa
open Go.RowKit
set_option linter.unusedVariables false
set_option linter.unusedSimpArgs false


set_option maxHeartbeats 4000000 in
theorem law_FnExactMayLeave (a0 : Option Addr) (n0 c0 : Nat) (P0 : Nat → Int) (K0 : Nat → Int) (R0 : Nat → Int) (x1 : Int) (w : World) (hz0 : CellsIn 0 w.heap.size w a0 (3 * n0) (drV P0 K0 R0)) (hmax0 : n0 ≤ 9223372036854775807) :
    Calls Try.prog 10 #[.slice a0 n0 c0, .int .i64 x1] w fun e w' => e = .returned (.bool true) ∧ Below w.heap.size w w' := by
  by_cases hn0 : n0 ≤ 1048576
  · have cs := fun A0 C0 W h0 => spec_MayLeave A0 n0 C0 P0 K0 R0 x1 W h0 hn0
    have ci := fun A0 C0 W h0 => impl_MayLeave A0 n0 C0 P0 K0 R0 x1 W h0 hn0
    generalize mayV P0 K0 R0 n0 x1 = r0 at *
    go_enter Try.func10, Try.ntmps10
    have b0 := Below.refl w.heap.size w
    have f0 := hz0
    clear hz0
    go_wp2_with fail
    refine (laws_szDoorS_ok a0 n0 c0 _ hn0).mono ?_
    rintro e w' ⟨rfl, rfl⟩
    go_wp2_with fail
    refine (laws_toDoorS_in a0 n0 c0 P0 K0 R0 _ f0 hn0).mono ?_
    rintro e w1 ⟨d1, e1, rfl, o1, p1⟩
    have s1 := p1.size
    have b1 := b0.trans (p1.mono b0.size)
    replace f0 := f0.below p1
    clear p1 b0
    go_wp2_with fail
    refine (cs _ _ _ o1.cells.doors).mono ?_
    rintro e w2 ⟨rfl, p2⟩
    have s2 := p2.size
    have b2 := b1.trans (p2.mono b1.size)
    replace f0 := f0.below p2
    clear o1
    clear p2 b1
    go_wp2_with fail
    refine (laws_toDoorS_in a0 n0 c0 P0 K0 R0 _ f0 hn0).mono ?_
    rintro e w3 ⟨d2, e2, rfl, o2, p3⟩
    have s3 := p3.size
    have b3 := b2.trans (p3.mono b2.size)
    replace f0 := f0.below p3
    clear p3 b2
    go_wp2_with fail
    refine (ci _ _ _ o2.cells.doors).mono ?_
    rintro e w4 ⟨rfl, p4⟩
    have s4 := p4.size
    have b4 := b3.trans (p4.mono b3.size)
    replace f0 := f0.below p4
    replace o2 := o2.below p4
    clear p4 b3
    go_wp2_with fail
    refine (laws_toDoorS_in a0 n0 c0 P0 K0 R0 _ f0 hn0).mono ?_
    rintro e w5 ⟨d3, e3, rfl, o3, p5⟩
    have s5 := p5.size
    have b5 := b4.trans (p5.mono b4.size)
    clear f0
    replace o2 := o2.below p5
    clear p5 b4
    go_wp2_with fail
    refine (laws_eqDoorS_in _ _ _ _ _ _ _ _ _ o2.cells o3.cells hn0).mono ?_
    rintro e w6 ⟨rfl, p6⟩
    have s6 := p6.size
    have b6 := b5.trans (p6.mono b5.size)
    clear o2
    clear o3
    clear p6 b5
    go_wp2
    go_returns
    exact ⟨rfl, b6⟩
  · go_enter Try.func10, Try.ntmps10
    go_wp2_with (first | (go_at_call 40; refine (laws_szDoorS_no a0 n0 c0 _ hn0 hmax0).mono ?_; rintro e w' ⟨rfl, rfl⟩))
    go_returns
    exact ⟨rfl, by go_grown⟩

end Go.Proofs.Ythoilgkhehemfaa
