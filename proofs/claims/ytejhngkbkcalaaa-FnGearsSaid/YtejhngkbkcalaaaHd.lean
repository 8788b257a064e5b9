/-
  Cells that a walk holds over calls. No program in sight.
-/
import Derived.WalkKit
import Derived.Below
namespace Go.Proofs.Ytejhngkbkcalaaa
open Go.RowKit
set_option linter.unusedVariables false
set_option linter.unusedSimpArgs false

/-- Cells that a walk holds. -/
def Held (W : World) (L : List (Nat × Nat × Value)) : Prop := ∀ x, x ∈ L → x.1 < W.heap.size ∧ W.cell? ⟨x.1, x.2.1, none⟩ = some x.2.2
theorem Held.below {W W' : World} {L : List (Nat × Nat × Value)} (h : Held W L) (k : Below W.heap.size W W') : Held W' L := fun x hx =>
  ⟨Nat.lt_of_lt_of_le (h x hx).1 k.size, (k.cell (p := ⟨x.1, x.2.1, none⟩) (h x hx).1).trans (h x hx).2⟩
theorem Held.get {W : World} {L : List (Nat × Nat × Value)} (h : Held W L) (i : Nat) (x : Nat × Nat × Value) (hx : L[i]? = some x) : W.cell? ⟨x.1, x.2.1, none⟩ = some x.2.2 :=
  (h x (List.mem_of_getElem? hx)).2
theorem Held.lt {W : World} {L : List (Nat × Nat × Value)} (h : Held W L) (i : Nat) (x : Nat × Nat × Value) (hx : L[i]? = some x) : x.1 < W.heap.size :=
  (h x (List.mem_of_getElem? hx)).1
theorem Held.nil (W : World) : Held W [] := fun x hx => by cases hx
theorem Held.cons {W : World} {L : List (Nat × Nat × Value)} {b o : Nat} {v : Value} (h : Held W L) (hb : b < W.heap.size) (hc : W.cell? ⟨b, o, none⟩ = some v) : Held W ((b, o, v) :: L) := fun x hx => by
  rcases List.mem_cons.1 hx with rfl | hx
  · exact ⟨hb, hc⟩
  · exact h x hx
end Go.Proofs.Ytejhngkbkcalaaa
