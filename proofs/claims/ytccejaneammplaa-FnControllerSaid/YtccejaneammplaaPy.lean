/-
  A state of the controller in a block of its own. No program in sight but the model's memory.
-/
import Derived.Test.YtccejaneammplaaPx
import Derived.Test.YtccejaneammplaaPk
namespace Go.Proofs.Ytccejaneammplaa
open Go.RowKit
set_option linter.unusedVariables false
set_option linter.unusedSimpArgs false

def stV (x : St) (q : Nat) : Value := if q = 0 then .int .i64 x.m else if q = 1 then .bool x.o else if q = 2 then .bool x.a else if q = 3 then .bool x.b else .bool x.e
/-- Block g of w holds the state x, and may be written. -/
def StAt (w : World) (g : Nat) (x : St) : Prop := OwnIn g (g + 1) w (some ⟨g, 0, none⟩) 5 (stV x)
section
variable {w w' : World} {g : Nat} {x y : St}
theorem StAt.below (h : StAt w g x) (hb : Below w.heap.size w w') : StAt w' g x := OwnIn.below h hb
theorem StAt.lt (h : StAt w g x) : g < w.heap.size := OwnIn.block h (by decide)
theorem StAt.c0 (h : StAt w g x) : w.cell? ⟨g, 0, none⟩ = some (.int .i64 x.m) := OwnIn.at h (by decide)
theorem StAt.c1 (h : StAt w g x) : w.cell? ⟨g, 1, none⟩ = some (.bool x.o) := OwnIn.at h (by decide)
theorem StAt.c2 (h : StAt w g x) : w.cell? ⟨g, 2, none⟩ = some (.bool x.a) := OwnIn.at h (by decide)
theorem StAt.c3 (h : StAt w g x) : w.cell? ⟨g, 3, none⟩ = some (.bool x.b) := OwnIn.at h (by decide)
theorem StAt.c4 (h : StAt w g x) : w.cell? ⟨g, 4, none⟩ = some (.bool x.e) := OwnIn.at h (by decide)
theorem StAt.fr (h : StAt w g x) {j : Nat} (hj : j < 5) : w.frozen? ⟨g, j, none⟩ = false := by
  obtain ⟨g', e, _, _, _, hc⟩ := h (by decide)
  have e2 : g = g' := by injection e with e1; injection e1
  subst e2
  exact (hc j hj).2
theorem stV_made (m : Int) (o a b e : Bool) (q : Nat) (hq : q < 5) : (#[Value.int .i64 m, .bool o, .bool a, .bool b, .bool e] : Array Value)[q]?.getD (.int .i64 0) = stV ⟨m, o, a, b, e⟩ q := by
  rcases (show q = 0 ∨ q = 1 ∨ q = 2 ∨ q = 3 ∨ q = 4 by omega) with rfl | rfl | rfl | rfl | rfl <;> rfl
theorem StAt.made (w : World) (t : TypeId) (m : Int) (o a b e : Bool) : StAt (w.alloc (.cells #[.int .i64 m, .bool o, .bool a, .bool b, .bool e] t)) w.heap.size ⟨m, o, a, b, e⟩ :=
  (own_new w #[.int .i64 m, .bool o, .bool a, .bool b, .bool e] t (Nat.le_refl _) (Nat.lt_succ_self _)).cong (fun q hq => stV_made m o a b e q hq)
theorem StAt.put (h : StAt w g x) (m : Int) (o a b e : Bool) : StAt (((((w.setCell ⟨g, 0, none⟩ (.int .i64 m)).setCell ⟨g, 1, none⟩ (.bool o)).setCell ⟨g, 2, none⟩ (.bool a)).setCell ⟨g, 3, none⟩ (.bool b)).setCell ⟨g, 4, none⟩ (.bool e)) g ⟨m, o, a, b, e⟩ :=
  (OwnIn.set (OwnIn.set (OwnIn.set (OwnIn.set (OwnIn.set h (show 0 < 5 by decide) _) (show 1 < 5 by decide) _) (show 2 < 5 by decide) _) (show 3 < 5 by decide) _) (show 4 < 5 by decide) _).cong (fun q hq => by
    rcases (show q = 0 ∨ q = 1 ∨ q = 2 ∨ q = 3 ∨ q = 4 by omega) with rfl | rfl | rfl | rfl | rfl <;> rfl)
theorem keep_put (w : World) (g : Nat) (u0 u1 u2 u3 u4 : Value) : Keep g (g + 1) w (((((w.setCell ⟨g, 0, none⟩ u0).setCell ⟨g, 1, none⟩ u1).setCell ⟨g, 2, none⟩ u2).setCell ⟨g, 3, none⟩ u3).setCell ⟨g, 4, none⟩ u4) :=
  (((((Keep.refl _ _ w).set (Nat.le_refl _) (Nat.lt_succ_self _)).set (Nat.le_refl _) (Nat.lt_succ_self _)).set (Nat.le_refl _) (Nat.lt_succ_self _)).set (Nat.le_refl _) (Nat.lt_succ_self _)).set (Nat.le_refl _) (Nat.lt_succ_self _)
theorem StAt.keep {lo hi : Nat} (h : StAt w g x) (k : Keep lo hi w w') (hd : g + 1 ≤ lo ∨ hi ≤ g) : StAt w' g x := OwnIn.keep h k hd
theorem size_put (w : World) (g : Nat) (u0 u1 u2 u3 u4 : Value) : (((((w.setCell ⟨g, 0, none⟩ u0).setCell ⟨g, 1, none⟩ u1).setCell ⟨g, 2, none⟩ u2).setCell ⟨g, 3, none⟩ u3).setCell ⟨g, 4, none⟩ u4).heap.size = w.heap.size := by simp [World.setCell]
end
end Go.Proofs.Ytccejaneammplaa
