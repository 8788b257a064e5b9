/-
  Contracts of small functions of the program.
-/
import Derived.Test.YtjckgheidmfpnaaRows
import Derived.Test.YtjckgheidmfpnaaPl
import Derived.Handy
import Derived.WalkLawsBesides
import Derived.WalkSpells
import Derived.Outline
import Derived.BigGuardPart
namespace Go.Proofs.Ytjckgheidmfpnaa
open Go.RowKit


theorem impl_within (n a b : Int) (w : World) : Calls Try.prog 20 #[.int .i64 n, .int .i64 a, .int .i64 b] w fun e w' => e = .returned (.bool (inB n a b)) ∧ w = w' := by
  by_cases h1 : a ≤ n <;> by_cases h2 : n ≤ b
  all_goals
    go_enter Try.func20, Try.ntmps20
    go_wp2
    go_ret
    exact ⟨by simp [inB, *] <;> omega, rfl⟩

end Go.Proofs.Ytjckgheidmfpnaa
