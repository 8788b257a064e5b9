/-
  Contract: a number in decimal, in the program; the library's table of powers is read.
-/
import Derived.Test.YtejhngkbkcalaaaGreatDoorSh
import Derived.Test.YtejhngkbkcalaaaGreatDoorDec
import Derived.WalkSmall
import Derived.Lib.LaidTab
namespace Go.Proofs.YtejhngkbkcalaaaGreatDoor
open Go.RowKit
open Go.Lib (itoa)
set_option linter.unusedVariables false
set_option linter.unusedSimpArgs false

/-- The library's table of the powers of ten reads as its text lays it. -/
def PowAt (w : World) : Prop := Go.Lib.TabIs Tryz.prog w "internal/strconv.uint64pow10" .u64 Go.Lib.pow10Tab
theorem pow_global : Tryz.prog.globalNamed "internal/strconv.uint64pow10" = some 0 := by kernel_rfl
theorem PowAt.below {w w' : World} (h : PowAt w) (hb : Below w.heap.size w w') : PowAt w' :=
  var?_below hb pow_global (World.block_lt_of_cell? w _ (Go.Lib.TabIs.cell h pow_global 0 (by decide))) h
theorem below_growN (w : World) (k : Nat) (os : Array Obj) : Below w.heap.size w (Go.Sort.grow (w.drewN k) os) :=
  ⟨rfl, rfl, rfl, by simp [Go.Sort.grow, World.drewN], fun j hj => by
    show (w.heap ++ os)[j]? = w.heap[j]?
    rw [Array.getElem?_append_left hj]⟩

theorem impl_Decimal (n : Int) (w : World) (h0 : -9223372036854775808 ≤ n) (h1 : n ≤ 9223372036854775807) (hT : PowAt w) : Calls Tryz.prog 50 #[.int .i64 n] w fun e w' => e = .returned (.string ⟨(itoa n).toArray⟩) ∧ Below w.heap.size w w' := by
  have k := fun W (h : PowAt W) => Go.Proofs.Tryz.strconv_FormatInt_10 n h0 h1 W h
  go_enter Tryz.func50, Tryz.ntmps50
  go_wp2_with (go_at_call 56; (with_reducible refine (k _ hT).mono ?_); rintro e w' ⟨rfl, m, os, rfl⟩)
  go_returns
  exact ⟨rfl, below_growN _ _ _⟩
theorem impl_Decimal_t (n : Int) (w : World) (h0 : -9223372036854775808 ≤ n) (h1 : n ≤ 9223372036854775807) (hT : PowAt w) : Calls Tryz.prog 50 #[.int .i64 n] w fun e w' => e = .returned (.string (dtx n)) ∧ Below w.heap.size w w' := impl_Decimal n w h0 h1 hT

end Go.Proofs.YtejhngkbkcalaaaGreatDoor
