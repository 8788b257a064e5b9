/-
  The walks of laws: the nearest switch.
-/
import Derived.Test.YtlkcnflhofophaaKP
namespace Go.Proofs.Ytlkcnflhofophaa
open Go.RowKit
set_option linter.unusedVariables false
set_option linter.unusedSimpArgs false


set_option maxHeartbeats 1000000 in
theorem law_FnExactNearestSwitch (a : Option Addr) (n c : Nat) (Z : Nat → Int) (p : Int) (w : World) (hz : IntsAt w a n Z) (hmax : n ≤ 9223372036854775807) :
    Calls Try.prog 3 #[.slice a n c, .int .i64 p] w fun e w' => e = .returned (.bool true) ∧ Below w.heap.size w w' := by
  by_cases hn : n ≤ 1048576
  · have c1 := fun W h => laws_toInt64S a n c Z W h hn
    have c2 := fun A W h => spec_NearestSwitch A n n Z p W h hn
    have c3 := fun A W h => impl_NearestSwitch A n n Z p W h hn
    have c4 := fun A A' W h h' => laws_eqInt64S_same A A' n n n Z W h h' hn
    generalize switchV Z n p = R at *
    generalize switchCode Z n p = C0 at *
    go_enter Try.func3, Try.ntmps3
    go_wp2_with fail
    refine (c1 _ hz).mono ?_
    rintro e w1 ⟨rfl, h1⟩
    have r1 : RowAt w1 w.heap.size n 2 Z := by rw [← h1]; exact heap_alloc_new w _
    have b1 : Below w.heap.size w w1 := by rw [← h1]; exact Below.alloc (Below.refl _ _) (Nat.le_refl _) _
    clear h1
    go_wp2_with fail
    refine (c2 _ _ r1.ints).mono ?_
    rintro e w2 ⟨rfl, hb2⟩
    have b2 : Below w.heap.size w w2 := b1.trans (hb2.mono b1.size)
    go_wp2_with fail
    refine (c1 _ (hz.below b2)).mono ?_
    rintro e w3 ⟨rfl, h3⟩
    have r3 : RowAt w3 w2.heap.size n 2 Z := by rw [← h3]; exact heap_alloc_new w2 _
    have b3' : Below w2.heap.size w2 w3 := by rw [← h3]; exact Below.alloc (Below.refl _ _) (Nat.le_refl _) _
    have b3 : Below w.heap.size w w3 := b2.trans (b3'.mono b2.size)
    clear h3
    go_wp2_with fail
    refine (c3 _ _ r3.ints).mono ?_
    rintro e w4 ⟨rfl, hb4⟩
    have b4 : Below w.heap.size w w4 := b3.trans (hb4.mono b3.size)
    have r4 : RowAt w4 w2.heap.size n 2 Z := r3.below hb4
    go_wp2_with fail
    refine (c1 _ (hz.below b4)).mono ?_
    rintro e w5 ⟨rfl, h5⟩
    have r5 : RowAt w5 w4.heap.size n 2 Z := by rw [← h5]; exact heap_alloc_new w4 _
    have b5' : Below w4.heap.size w4 w5 := by rw [← h5]; exact Below.alloc (Below.refl _ _) (Nat.le_refl _) _
    have b5 : Below w.heap.size w w5 := b4.trans (b5'.mono b4.size)
    clear h5
    go_wp2_with fail
    refine (c4 _ _ _ (r4.below b5').ints r5.ints).mono ?_
    rintro e w6 ⟨rfl, hb6⟩
    have b6 : Below w.heap.size w w6 := b5.trans (hb6.mono b5.size)
    go_wp2
    go_returns
    exact ⟨rfl, b6⟩
  · go_enter Try.func3, Try.ntmps3
    go_wp2
    go_returns
    exact ⟨rfl, by go_grown⟩

end Go.Proofs.Ytlkcnflhofophaa
