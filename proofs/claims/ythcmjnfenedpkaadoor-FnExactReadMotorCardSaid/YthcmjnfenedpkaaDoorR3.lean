/-
  A block of three cells.
-/
import Derived.Test.YthcmjnfenedpkaaDoorKW
namespace Go.Proofs.YthcmjnfenedpkaaDoor
open Go.RowKit
set_option linter.unusedVariables false
set_option linter.unusedSimpArgs false

theorem keep_row3 (w : World) (g : Nat) (u0 u1 u2 : Value) : Keep g (g + 1) w (((w.setCell ⟨g, 0, none⟩ u0).setCell ⟨g, 1, none⟩ u1).setCell ⟨g, 2, none⟩ u2) :=
  (((Keep.refl _ _ w).set (Nat.le_refl _) (Nat.lt_succ_self _)).set (Nat.le_refl _) (Nat.lt_succ_self _)).set (Nat.le_refl _) (Nat.lt_succ_self _)
theorem Row3.made (w : World) (x y z : Value) (t : TypeId) : Row3 (w.alloc (.cells #[x, y, z] t)) w.heap.size x y z := by
  refine ⟨?_, ?_, ?_, ?_, ?_, ?_, by simp⟩
  all_goals go_simp
theorem Row3.set0 {w : World} {g : Nat} {x y z x' : Value} (h : Row3 w g x y z) : Row3 (w.setCell ⟨g, 0, none⟩ x') g x' y z :=
  ⟨cell_same h.c0, cell_off h.c1 (by decide), cell_off h.c2 (by decide), by simpa using h.f0, by simpa using h.f1, by simpa using h.f2, lt_set h.lt⟩
theorem Row3.set1 {w : World} {g : Nat} {x y z y' : Value} (h : Row3 w g x y z) : Row3 (w.setCell ⟨g, 1, none⟩ y') g x y' z :=
  ⟨cell_off h.c0 (by decide), cell_same h.c1, cell_off h.c2 (by decide), by simpa using h.f0, by simpa using h.f1, by simpa using h.f2, lt_set h.lt⟩
theorem Row3.set2 {w : World} {g : Nat} {x y z z' : Value} (h : Row3 w g x y z) : Row3 (w.setCell ⟨g, 2, none⟩ z') g x y z' :=
  ⟨cell_off h.c0 (by decide), cell_off h.c1 (by decide), cell_same h.c2, by simpa using h.f0, by simpa using h.f1, by simpa using h.f2, lt_set h.lt⟩
theorem Row3.other {w : World} {g b j : Nat} {x y z u : Value} (h : Row3 w g x y z) (hb : b ≠ g) : Row3 (w.setCell ⟨b, j, none⟩ u) g x y z :=
  ⟨cell_far h.c0 (by omega), cell_far h.c1 (by omega), cell_far h.c2 (by omega), by simpa using h.f0, by simpa using h.f1, by simpa using h.f2, lt_set h.lt⟩
end Go.Proofs.YthcmjnfenedpkaaDoor
