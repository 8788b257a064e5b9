/-
  Contracts of more functions that ask whether a number lies in a range.
-/
import Derived.Test.YtjckgheidmfpnaaKA
namespace Go.Proofs.Ytjckgheidmfpnaa
open Go.RowKit
set_option linter.unusedVariables false
set_option linter.unusedSimpArgs false


theorem impl_isReading (n : Int) (w : World) : Calls Try.prog 33 #[.int .i64 n] w fun e w' => e = .returned (.bool (inB n (-1000000000) 1000000000)) ∧ w = w' := by
  go_enter Try.func33, Try.ntmps33
  go_wp2_with (go_at_call 20; go_call impl_within as e w' ⟨rfl, rfl⟩)
  go_returns
  exact ⟨rfl, rfl⟩

end Go.Proofs.Ytjckgheidmfpnaa
