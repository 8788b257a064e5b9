/-
  The walks of laws: valid workers.
-/
import Derived.Test.YtdnnmpmpemcpbaaKY2
import Derived.Test.YtdnnmpmpemcpbaaKW2
import Derived.Test.YtdnnmpmpemcpbaaKF
namespace Go.Proofs.Ytdnnmpmpemcpbaa
open Go.RowKit
set_option linter.unusedVariables false
set_option linter.unusedSimpArgs false


set_option maxHeartbeats 4000000 in
theorem law_FnExactValidWorkers (a0 : Option Addr) (n0 c0 : Nat) (I0 : Nat → ByteArray) (F0 : Nat → Int) (U0 : Nat → Int) (w : World) (hz0 : CellsIn 0 w.heap.size w a0 (3 * n0) (wkV I0 F0 U0)) (hmax0 : n0 ≤ 9223372036854775807 ∧ ∀ k, k < n0 → (I0 k).size ≤ 9223372036854775807) :
    Calls Try.prog 5 #[.slice a0 n0 c0] w fun e w' => e = .returned (.bool true) ∧ Below w.heap.size w w' := by
  by_cases hn0 : szW I0 n0 ≤ 1048576
  · have cs := fun A0 C0 W h0 => spec_ValidWorkers A0 n0 C0 I0 F0 U0 W h0 hn0
    have ci := fun A0 C0 W h0 => impl_ValidWorkers A0 n0 C0 I0 F0 U0 W h0 hn0
    generalize validW I0 F0 U0 n0 = r0 at *
    go_enter Try.func5, Try.ntmps5
    have bel0 := Below.refl w.heap.size w
    have f0 := (hz0)
    clear hz0
    go_wp2_with fail
    refine (laws_szWorkerS_ok a0 n0 c0 I0 F0 U0 _ f0 hmax0 hn0).mono ?_
    rintro e w1 ⟨rfl, p1⟩
    have s1 := p1.size
    have bel1 := bel0.trans (p1.mono bel0.size)
    replace f0 := f0.below p1
    clear p1 bel0
    go_wp2_with fail
    refine (laws_toWorkerS_in a0 n0 c0 I0 F0 U0 _ f0 hn0).mono ?_
    rintro e w2 ⟨d1, e1, rfl, o1, p2⟩
    have s2 := p2.size
    have bel2 := bel1.trans (p2.mono bel1.size)
    replace f0 := f0.below p2
    clear p2 bel1
    go_wp2_with fail
    refine (cs _ _ _ o1.cells.workers).mono ?_
    rintro e w3 ⟨rfl, p3⟩
    have s3 := p3.size
    have bel3 := bel2.trans (p3.mono bel2.size)
    replace f0 := f0.below p3
    clear o1
    clear p3 bel2
    go_wp2_with fail
    refine (laws_toWorkerS_in a0 n0 c0 I0 F0 U0 _ f0 hn0).mono ?_
    rintro e w4 ⟨d2, e2, rfl, o2, p4⟩
    have s4 := p4.size
    have bel4 := bel3.trans (p4.mono bel3.size)
    replace f0 := f0.below p4
    clear p4 bel3
    go_wp2_with fail
    refine (ci _ _ _ o2.cells.workers).mono ?_
    rintro e w5 ⟨rfl, p5⟩
    have s5 := p5.size
    have bel5 := bel4.trans (p5.mono bel4.size)
    replace f0 := f0.below p5
    replace o2 := o2.below p5
    clear p5 bel4
    go_wp2_with fail
    refine (laws_toWorkerS_in a0 n0 c0 I0 F0 U0 _ f0 hn0).mono ?_
    rintro e w6 ⟨d3, e3, rfl, o3, p6⟩
    have s6 := p6.size
    have bel6 := bel5.trans (p6.mono bel5.size)
    clear f0
    replace o2 := o2.below p6
    clear p6 bel5
    go_wp2_with fail
    refine (laws_eqWorkerS_in _ _ _ _ _ _ _ _ _ o2.cells o3.cells hn0).mono ?_
    rintro e w7 ⟨rfl, p7⟩
    have s7 := p7.size
    have bel7 := bel6.trans (p7.mono bel6.size)
    clear o2
    clear o3
    clear p7 bel6
    go_wp2
    go_returns
    exact ⟨rfl, bel7⟩
  · go_enter Try.func5, Try.ntmps5
    go_wp2_with (first | (go_at_call 19; refine (laws_szWorkerS_no a0 n0 c0 I0 F0 U0 _ hz0 hmax0 hn0).mono ?_; rintro e w' ⟨rfl, hb⟩))
    go_returns
    exact ⟨rfl, hb⟩

end Go.Proofs.Ytdnnmpmpemcpbaa
