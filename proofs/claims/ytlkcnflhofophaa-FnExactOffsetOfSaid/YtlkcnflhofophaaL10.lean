/-
  The walks of laws: offsets.
-/
import Derived.Test.YtlkcnflhofophaaKQ
namespace Go.Proofs.Ytlkcnflhofophaa
open Go.RowKit
set_option linter.unusedVariables false
set_option linter.unusedSimpArgs false


set_option maxHeartbeats 1000000 in
theorem law_FnExactOffsetOf (a : Option Addr) (n c : Nat) (Z : Nat → Int) (a' : Option Addr) (n' c' : Nat) (Y : Nat → Int) (w : World) (hz : IntsAt w a n Z) (hmax : n ≤ 9223372036854775807) (hy : IntsAt w a' n' Y) (hmax' : n' ≤ 9223372036854775807) :
    Calls Try.prog 5 #[.slice a n c, .slice a' n' c'] w fun e w' => e = .returned (.bool true) ∧ Below w.heap.size w w' := by
  by_cases hn : n ≤ 1048576
  · by_cases hn' : n' ≤ 1048576
    · have c1 := fun W h => laws_toInt64S a n c Z W h hn
      have d1 := fun W h => laws_toInt64S a' n' c' Y W h hn'
      have c2 := fun A B W h h' => spec_OffsetOf A B n n' n n' Z Y W h h' hn hn'
      have c3 := fun A B W h h' => impl_OffsetOf A B n n' n n' Z Y W h h' hn hn'
      have c4 := fun A A' W h h' => laws_eqInt64S_same A A' n n n Z W h h' hn
      have d4 := fun A A' W h h' => laws_eqInt64S_same A A' n' n' n' Y W h h' hn'
      generalize offV Z Y n n' = R at *
      generalize offCode Z Y n n' = C0 at *
      go_enter Try.func5, Try.ntmps5
      go_wp2_with fail
      refine (c1 _ hz).mono ?_
      rintro e w1 ⟨rfl, h1⟩
      have r1 : RowAt w1 w.heap.size n 2 Z := by rw [← h1]; exact heap_alloc_new w _
      have p1 : Below w.heap.size w w1 := by rw [← h1]; exact Below.alloc (Below.refl _ _) (Nat.le_refl _) _
      have b1 : Below w.heap.size w w1 := p1
      clear h1
      go_wp2_with fail
      refine (d1 _ (hy.below b1)).mono ?_
      rintro e w2 ⟨rfl, h2⟩
      have r2 : RowAt w2 w1.heap.size n' 2 Y := by rw [← h2]; exact heap_alloc_new w1 _
      have p2 : Below w1.heap.size w1 w2 := by rw [← h2]; exact Below.alloc (Below.refl _ _) (Nat.le_refl _) _
      have b2 : Below w.heap.size w w2 := b1.trans (p2.mono b1.size)
      clear h2
      go_wp2_with fail
      refine (c2 _ _ _ (r1.below p2).ints r2.ints).mono ?_
      rintro e w3 ⟨rfl, p3⟩
      have b3 : Below w.heap.size w w3 := b2.trans (p3.mono b2.size)
      go_wp2_with fail
      refine (c1 _ (hz.below b3)).mono ?_
      rintro e w4 ⟨rfl, h4⟩
      have r4 : RowAt w4 w3.heap.size n 2 Z := by rw [← h4]; exact heap_alloc_new w3 _
      have p4 : Below w3.heap.size w3 w4 := by rw [← h4]; exact Below.alloc (Below.refl _ _) (Nat.le_refl _) _
      have b4 : Below w.heap.size w w4 := b3.trans (p4.mono b3.size)
      clear h4
      go_wp2_with fail
      refine (d1 _ (hy.below b4)).mono ?_
      rintro e w5 ⟨rfl, h5⟩
      have r5 : RowAt w5 w4.heap.size n' 2 Y := by rw [← h5]; exact heap_alloc_new w4 _
      have p5 : Below w4.heap.size w4 w5 := by rw [← h5]; exact Below.alloc (Below.refl _ _) (Nat.le_refl _) _
      have b5 : Below w.heap.size w w5 := b4.trans (p5.mono b4.size)
      clear h5
      go_wp2_with fail
      refine (c3 _ _ _ (r4.below p5).ints r5.ints).mono ?_
      rintro e w6 ⟨rfl, p6⟩
      have b6 : Below w.heap.size w w6 := b5.trans (p6.mono b5.size)
      go_wp2_with fail
      refine (c1 _ (hz.below b6)).mono ?_
      rintro e w7 ⟨rfl, h7⟩
      have r7 : RowAt w7 w6.heap.size n 2 Z := by rw [← h7]; exact heap_alloc_new w6 _
      have p7 : Below w6.heap.size w6 w7 := by rw [← h7]; exact Below.alloc (Below.refl _ _) (Nat.le_refl _) _
      have b7 : Below w.heap.size w w7 := b6.trans (p7.mono b6.size)
      clear h7
      go_wp2_with fail
      refine (c4 _ _ _ (((r4.below p5).below p6).below p7).ints r7.ints).mono ?_
      rintro e w8 ⟨rfl, p8⟩
      have b8 : Below w.heap.size w w8 := b7.trans (p8.mono b7.size)
      go_wp2_with fail
      refine (d1 _ (hy.below b8)).mono ?_
      rintro e w9 ⟨rfl, h9⟩
      have r9 : RowAt w9 w8.heap.size n' 2 Y := by rw [← h9]; exact heap_alloc_new w8 _
      have p9 : Below w8.heap.size w8 w9 := by rw [← h9]; exact Below.alloc (Below.refl _ _) (Nat.le_refl _) _
      have b9 : Below w.heap.size w w9 := b8.trans (p9.mono b8.size)
      clear h9
      go_wp2_with fail
      refine (d4 _ _ _ ((((r5.below p6).below p7).below (p8.mono (Nat.le_refl _))).below p9).ints r9.ints).mono ?_
      rintro e w10 ⟨rfl, p10⟩
      have b10 : Below w.heap.size w w10 := b9.trans (p10.mono b9.size)
      go_wp2
      go_returns
      exact ⟨rfl, b10⟩
    · go_enter Try.func5, Try.ntmps5
      go_wp2
      go_returns
      exact ⟨rfl, by go_grown⟩
  · go_enter Try.func5, Try.ntmps5
    go_wp2
    go_returns
    exact ⟨rfl, by go_grown⟩

end Go.Proofs.Ytlkcnflhofophaa
