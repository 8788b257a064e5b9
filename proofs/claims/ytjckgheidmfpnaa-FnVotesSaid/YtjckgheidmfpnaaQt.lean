/-
  A region that draws its order, whose operations read and whose calls may make memory: one walk, over the class of all worlds that are as w was below its own blocks.
-/
import Derived.WalkKit
import Derived.Below
import Derived.Deep.QuietTactic
import Derived.BigQuiet
import Derived.Deep.RegionHeld3
namespace Go.Proofs.Ytjckgheidmfpnaa
open Go.RowKit
set_option linter.unusedVariables false
set_option linter.unusedSimpArgs false

/-- All worlds that are as w was, below w's own size. -/
def Cls (w : World) : Type := { W : World // Below w.heap.size w W }
def Cls.w {w : World} (u : Cls w) : World := u.1
theorem Cls.below {w : World} (u : Cls w) : Below w.heap.size w u.w := u.2
instance (w : World) : Nonempty (Cls w) := ⟨⟨w, Below.refl _ _⟩⟩
@[go_sem] theorem cls_cell (w : World) : ∀ (u : Cls w) (b o : Nat), b < w.heap.size → u.w.cell? ⟨b, o, none⟩ = w.cell? ⟨b, o, none⟩ := fun u b o h => u.below.cell (p := ⟨b, o, none⟩) h

/-- What a callee that makes memory leaves: rules of the walk, each under 'b was there before'. -/
theorem bkeep {W w1 : World} (hb : Below W.heap.size W w1) : (∀ b o, b < W.heap.size → w1.cell? ⟨b, o, none⟩ = W.cell? ⟨b, o, none⟩) ∧ (∀ b o, b < W.heap.size → w1.frozen? ⟨b, o, none⟩ = W.frozen? ⟨b, o, none⟩) ∧ (∀ b, b < W.heap.size → b < w1.heap.size) :=
  ⟨fun b o h => hb.cell (p := ⟨b, o, none⟩) h, fun b o h => hb.frozen (p := ⟨b, o, none⟩) h, fun b h => Nat.lt_of_lt_of_le h hb.size⟩

section
variable {w : World} {b g k o : Nat} {u v : Value} {O : Obj} {B : Nat} {a : World}
theorem cell_far (h : w.cell? ⟨b, k, none⟩ = some v) (hne : b ≠ g) : (w.setCell ⟨g, o, none⟩ u).cell? ⟨b, k, none⟩ = some v :=
  (World.cell?_setCell_other w _ _ u (fun e => hne (by injection e with e1; exact e1.symm))).trans h
theorem cell_same {x : Value} (h : w.cell? ⟨g, o, none⟩ = some x) : (w.setCell ⟨g, o, none⟩ u).cell? ⟨g, o, none⟩ = some u :=
  World.cell?_setCell_same w _ u h
theorem cell_off (h : w.cell? ⟨b, k, none⟩ = some v) (hne : k ≠ o) : (w.setCell ⟨g, o, none⟩ u).cell? ⟨b, k, none⟩ = some v :=
  (World.cell?_setCell_other w _ _ u (fun e => hne (by injection e with e1 e2; exact e2.symm))).trans h
theorem cell_old (h : w.cell? ⟨b, k, none⟩ = some v) (hlt : b < w.heap.size) : (w.alloc O).cell? ⟨b, k, none⟩ = some v :=
  (World.cell?_alloc_lt w O _ hlt).trans h
theorem cell_drew (h : w.cell? ⟨b, k, none⟩ = some v) : w.drew.cell? ⟨b, k, none⟩ = some v := h
theorem lt_set (h : b < w.heap.size) : b < (w.setCell ⟨g, o, none⟩ u).heap.size := by simpa [World.setCell] using h
theorem lt_alloc (h : b < w.heap.size) : b < (w.alloc O).heap.size := by simp; omega
theorem lt_drew (h : b < w.heap.size) : b < w.drew.heap.size := h
theorem below_set (h : Below B a w) (hg : B ≤ g) : Below B a (w.setCell ⟨g, o, none⟩ u) := Below.setCell h (p := ⟨g, o, none⟩) hg u
end

section
variable {P : Program} {f : FuncId} {args : Array Value} {w : World} {v : Value}
/-- A contract of a callee that makes memory. -/
theorem cls_B {u : Cls w} (c : Calls P f args u.w fun e w' => e = .returned v ∧ Below u.w.heap.size u.w w') : Calls P f args u.w fun e w'' => e = .returned v ∧ ∃ u' : Cls w, w'' = u'.w :=
  c.mono fun _ w' ⟨he, hb⟩ => ⟨he, ⟨w', u.below.trans (hb.mono u.below.size)⟩, rfl⟩
/-- A contract of a callee that leaves the world. -/
theorem cls_S {u : Cls w} (c : Calls P f args u.w fun e w' => e = .returned v ∧ u.w = w') : Calls P f args u.w fun e w'' => e = .returned v ∧ ∃ u' : Cls w, w'' = u'.w :=
  c.mono fun _ _ ⟨he, hw⟩ => ⟨he, u, hw.symm⟩
theorem wp_region_cls {id : Nat} {Q : Exit → Act → World → Prop} {a : Act} {l : List Oper} (hm : P.follows .mixedOrders = true) (hB : Region.lexB .any l.toArray = true)
    (h : wpQuiet P l.toArray (fun w' => ∃ u : Cls w, w' = u.w) (fun a' => ∀ w', (∃ u : Cls w, w' = u.w) → Q .normal a' w') l a) : (Code.region id l.toArray true).wp P Q a w :=
  wp_region_quiet (C := fun w' => ∃ u : Cls w, w' = u.w) hm hB ⟨⟨_, (Below.refl _ _).drew⟩, rfl⟩ (by simpa using h)
/-- Quiet contracts under draws, for 'w = w''. -/
theorem quiet_S {n : Nat} (h : Calls P f args (w.drewN n) fun e w' => e = .returned v ∧ w.drewN n = w') : Calls P f args (w.drewN n) fun e w'' => e = .returned v ∧ ∃ m, w'' = w.drewN m :=
  h.mono fun _ _ ⟨he, hm⟩ => ⟨he, n, hm.symm⟩
end
/-- In the midst of a region: from here on a stronger condition on the world is held. -/
theorem wpAnyH_mono {P : Program} {md : Region.Mode} {ops : Array Oper} {Q : Exit → Act → World → Prop} {S S' : World → Prop} (h : ∀ w, S' w → S w) :
    ∀ (fuel : Nat) (listed : Array Bool) (a : Act) (w : World), wpAnyH P md ops Q S' fuel listed a w → wpAnyH P md ops Q S fuel listed a w
  | 0, _, _, _, hh => hh
  | fuel + 1, _, _, _, hh => ⟨hh.1, fun i hi => wpOp_mono (fun a' w' h' => ⟨h w' h'.1, wpAnyH_mono h fuel _ a' w' h'.2⟩) (hh.2 i hi)⟩
end Go.Proofs.Ytjckgheidmfpnaa
