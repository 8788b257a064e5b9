/-
  A block of three cells.
-/
import Derived.Test.YtejhngkbkcalaaaM1
import Derived.Lib.Hide
namespace Go.Proofs.Ytejhngkbkcalaaa
open Go.RowKit
set_option linter.unusedVariables false
set_option linter.unusedSimpArgs false

/-- A block of three cells, none frozen. -/
structure Row3 (w : World) (g : Nat) (x y z : Value) : Prop where
  c0 : w.cell? ⟨g, 0, none⟩ = some x
  c1 : w.cell? ⟨g, 1, none⟩ = some y
  c2 : w.cell? ⟨g, 2, none⟩ = some z
  f0 : w.frozen? ⟨g, 0, none⟩ = false
  f1 : w.frozen? ⟨g, 1, none⟩ = false
  f2 : w.frozen? ⟨g, 2, none⟩ = false
  lt : g < w.heap.size
theorem Row3.below {w w' : World} {g : Nat} {x y z : Value} (h : Row3 w g x y z) (hb : Below w.heap.size w w') : Row3 w' g x y z :=
  ⟨(hb.cell (p := ⟨g, 0, none⟩) h.lt).trans h.c0, (hb.cell (p := ⟨g, 1, none⟩) h.lt).trans h.c1, (hb.cell (p := ⟨g, 2, none⟩) h.lt).trans h.c2,
   (hb.frozen (p := ⟨g, 0, none⟩) h.lt).trans h.f0, (hb.frozen (p := ⟨g, 1, none⟩) h.lt).trans h.f1, (hb.frozen (p := ⟨g, 2, none⟩) h.lt).trans h.f2, Nat.lt_of_lt_of_le h.lt hb.size⟩
theorem Row3.set {w : World} {g : Nat} {x y z x' y' z' : Value} (h : Row3 w g x y z) :
    Row3 (((w.setCell ⟨g, 0, none⟩ x').setCell ⟨g, 1, none⟩ y').setCell ⟨g, 2, none⟩ z') g x' y' z' :=
  ⟨cell_off (cell_off (cell_same h.c0) (by decide)) (by decide), cell_off (cell_same (cell_off h.c1 (by decide))) (by decide), cell_same (cell_off (cell_off h.c2 (by decide)) (by decide)),
   by simpa using h.f0, by simpa using h.f1, by simpa using h.f2, lt_set (lt_set (lt_set h.lt))⟩
theorem below_set3 {a w : World} {g B : Nat} {x' y' z' : Value} (h : Below B a w) (hg : B ≤ g) : Below B a (((w.setCell ⟨g, 0, none⟩ x').setCell ⟨g, 1, none⟩ y').setCell ⟨g, 2, none⟩ z') :=
  below_set (below_set (below_set h hg) hg) hg
theorem keep_row3 (w : World) (g : Nat) (u0 u1 u2 : Value) : Keep g (g + 1) w (((w.setCell ⟨g, 0, none⟩ u0).setCell ⟨g, 1, none⟩ u1).setCell ⟨g, 2, none⟩ u2) :=
  (((Keep.refl _ _ w).set (Nat.le_refl _) (Nat.lt_succ_self _)).set (Nat.le_refl _) (Nat.lt_succ_self _)).set (Nat.le_refl _) (Nat.lt_succ_self _)
theorem Row3.made (w : World) (x y z : Value) (t : TypeId) : Row3 (w.alloc (.cells #[x, y, z] t)) w.heap.size x y z := by
  refine ⟨?_, ?_, ?_, ?_, ?_, ?_, by simp⟩
  all_goals go_simp
theorem Row3.set0 {w : World} {g : Nat} {x y z x' : Value} (h : Row3 w g x y z) : Row3 (w.setCell ⟨g, 0, none⟩ x') g x' y z :=
  ⟨cell_same h.c0, cell_off h.c1 (by decide), cell_off h.c2 (by decide), by simpa using h.f0, by simpa using h.f1, by simpa using h.f2, lt_set h.lt⟩
theorem Row3.set1 {w : World} {g : Nat} {x y z y' : Value} (h : Row3 w g x y z) : Row3 (w.setCell ⟨g, 1, none⟩ y') g x y' z :=
  ⟨cell_off h.c0 (by decide), cell_same h.c1, cell_off h.c2 (by decide), by simpa using h.f0, by simpa using h.f1, by simpa using h.f2, lt_set h.lt⟩
theorem Row3.set2 {w : World} {g : Nat} {x y z z' : Value} (h : Row3 w g x y z) : Row3 (w.setCell ⟨g, 2, none⟩ z') g x y z' :=
  ⟨cell_off h.c0 (by decide), cell_off h.c1 (by decide), cell_same h.c2, by simpa using h.f0, by simpa using h.f1, by simpa using h.f2, lt_set h.lt⟩
theorem Row3.other {w : World} {g b j : Nat} {x y z u : Value} (h : Row3 w g x y z) (hb : b ≠ g) : Row3 (w.setCell ⟨b, j, none⟩ u) g x y z :=
  ⟨cell_far h.c0 (by omega), cell_far h.c1 (by omega), cell_far h.c2 (by omega), by simpa using h.f0, by simpa using h.f1, by simpa using h.f2, lt_set h.lt⟩
end Go.Proofs.Ytejhngkbkcalaaa
