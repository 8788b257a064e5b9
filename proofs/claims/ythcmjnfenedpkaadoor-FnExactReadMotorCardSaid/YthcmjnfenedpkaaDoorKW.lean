/-
  Contracts: after how many ticks a door is shut.
-/
import Derived.Test.YthcmjnfenedpkaaDoorKU
import Derived.Test.YthcmjnfenedpkaaDoorM1
import Derived.Deep.DeepCutAuto
import Derived.Lib.Hide
namespace Go.Proofs.YthcmjnfenedpkaaDoor
open Go.RowKit
set_option linter.unusedVariables false
set_option linter.unusedSimpArgs false


/-- A block of three cells, none frozen. -/
structure Row3 (w : World) (g : Nat) (x y z : Value) : Prop where
  c0 : w.cell? ⟨g, 0, none⟩ = some x
  c1 : w.cell? ⟨g, 1, none⟩ = some y
  c2 : w.cell? ⟨g, 2, none⟩ = some z
  f0 : w.frozen? ⟨g, 0, none⟩ = false
  f1 : w.frozen? ⟨g, 1, none⟩ = false
  f2 : w.frozen? ⟨g, 2, none⟩ = false
  lt : g < w.heap.size
theorem Row3.below {w w' : World} {g : Nat} {x y z : Value} (h : Row3 w g x y z) (hb : Below w.heap.size w w') : Row3 w' g x y z :=
  ⟨(hb.cell (p := ⟨g, 0, none⟩) h.lt).trans h.c0, (hb.cell (p := ⟨g, 1, none⟩) h.lt).trans h.c1, (hb.cell (p := ⟨g, 2, none⟩) h.lt).trans h.c2,
   (hb.frozen (p := ⟨g, 0, none⟩) h.lt).trans h.f0, (hb.frozen (p := ⟨g, 1, none⟩) h.lt).trans h.f1, (hb.frozen (p := ⟨g, 2, none⟩) h.lt).trans h.f2, Nat.lt_of_lt_of_le h.lt hb.size⟩
theorem Row3.set {w : World} {g : Nat} {x y z x' y' z' : Value} (h : Row3 w g x y z) :
    Row3 (((w.setCell ⟨g, 0, none⟩ x').setCell ⟨g, 1, none⟩ y').setCell ⟨g, 2, none⟩ z') g x' y' z' :=
  ⟨cell_off (cell_off (cell_same h.c0) (by decide)) (by decide), cell_off (cell_same (cell_off h.c1 (by decide))) (by decide), cell_same (cell_off (cell_off h.c2 (by decide)) (by decide)),
   by simpa using h.f0, by simpa using h.f1, by simpa using h.f2, lt_set (lt_set (lt_set h.lt))⟩
theorem below_set3 {a w : World} {g B : Nat} {x' y' z' : Value} (h : Below B a w) (hg : B ≤ g) : Below B a (((w.setCell ⟨g, 0, none⟩ x').setCell ⟨g, 1, none⟩ y').setCell ⟨g, 2, none⟩ z') :=
  below_set (below_set (below_set h hg) hg) hg

end Go.Proofs.YthcmjnfenedpkaaDoor
