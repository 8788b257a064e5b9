/-
  Plain: the first unsafe second of a ride; what stays in memory while a ride is counted.
-/
import Derived.Test.YtcnnhklbilcbaaaKM3
import Derived.Test.YtcnnhklbilcbaaaM1
namespace Go.Proofs.Ytcnnhklbilcbaaa
open Go.RowKit
set_option linter.unusedVariables false
set_option linter.unusedSimpArgs false

def xV (T p : Int) (down : Bool) : Int := if down then T - p else p
/-- Whether a car at a place p, with a speed s, is under way and would not stop in time. -/
def badB (L G : Nat → Int) (n : Nat) (d f p s : Int) (down : Bool) : Bool := decide (p < lenT L n) && !inTimeB L G n d f (xV (lenT L n) p down) s down
def badK (L G : Nat → Int) (n : Nat) (d f a r c y : Int) (down : Bool) (k : Nat) : Bool := badB L G n d f (placeK a r c y (lenT L n) k) (speedK a r c y (lenT L n) k) down
/-- One less than the first unsafe second, or all seconds. -/
def firstN (L G : Nat → Int) (n : Nat) (d f a r c y : Int) (down : Bool) : Nat := fst (fun k => badK L G n d f a r c y down (k + 1)) (timeN a r c y (lenT L n))
def firstOk (L G : Nat → Int) (n : Nat) (lf lu d f a r c y : Int) : Bool := trackOk L G n lf lu && (validBrake d f && profOk a r c y)
def firstC (L G : Nat → Int) (n : Nat) (lf lu d f a r c y : Int) (down : Bool) : Int :=
  if firstOk L G n lf lu d f a r c y = true then (if firstN L G n d f a r c y down < timeN a r c y (lenT L n) then 0 else 3) else 1
def firstV (L G : Nat → Int) (n : Nat) (lf lu d f a r c y : Int) (down : Bool) : Int :=
  if firstC L G n lf lu d f a r c y down = 0 then (firstN L G n d f a r c y down : Int) + 1 else 0
section
variable {L G : Nat → Int} {n : Nat} {lf lu d f a r c y : Int} {down : Bool}
theorem first_1 (h : firstOk L G n lf lu d f a r c y = false) : firstC L G n lf lu d f a r c y down = 1 ∧ firstV L G n lf lu d f a r c y down = 0 := by
  have e : firstC L G n lf lu d f a r c y down = 1 := by unfold firstC; rw [h]; rfl
  exact ⟨e, by unfold firstV; rw [e]; rfl⟩
theorem first_3 (h : firstOk L G n lf lu d f a r c y = true) (h2 : ¬ firstN L G n d f a r c y down < timeN a r c y (lenT L n)) : firstC L G n lf lu d f a r c y down = 3 ∧ firstV L G n lf lu d f a r c y down = 0 := by
  have e : firstC L G n lf lu d f a r c y down = 3 := by unfold firstC; rw [h, if_pos rfl, if_neg h2]
  exact ⟨e, by unfold firstV; rw [e]; rfl⟩
theorem first_0 (h : firstOk L G n lf lu d f a r c y = true) (h2 : firstN L G n d f a r c y down < timeN a r c y (lenT L n)) : firstC L G n lf lu d f a r c y down = 0 ∧ firstV L G n lf lu d f a r c y down = (firstN L G n d f a r c y down : Int) + 1 := by
  have e : firstC L G n lf lu d f a r c y down = 0 := by unfold firstC; rw [h, if_pos rfl, if_pos h2]
  exact ⟨e, by unfold firstV; rw [e]; rfl⟩
theorem first_le : firstN L G n d f a r c y down ≤ timeN a r c y (lenT L n) := fst_le _ _
theorem first_hit {k : Nat} (hn : ∀ j, j < k → badK L G n d f a r c y down (j + 1) = false) (hk : k < timeN a r c y (lenT L n)) (h : badK L G n d f a r c y down (k + 1) = true) : firstN L G n d f a r c y down = k := by
  rcases Nat.lt_trichotomy (firstN L G n d f a r c y down) k with h1 | h1 | h1
  · have := fst_true (q := fun k => badK L G n d f a r c y down (k + 1)) (n := timeN a r c y (lenT L n)) (by unfold firstN at h1; omega)
    have h2 := hn _ h1
    unfold firstN at h2
    rw [h2] at this; exact absurd this (by decide)
  · exact h1
  · have := fst_false (q := fun k => badK L G n d f a r c y down (k + 1)) h1
    rw [h] at this; exact absurd this (by decide)
theorem first_none (hn : ∀ j, j < timeN a r c y (lenT L n) → badK L G n d f a r c y down (j + 1) = false) : firstN L G n d f a r c y down = timeN a r c y (lenT L n) := by
  have h0 := first_le (L := L) (G := G) (n := n) (d := d) (f := f) (a := a) (r := r) (c := c) (y := y) (down := down)
  by_cases h : firstN L G n d f a r c y down < timeN a r c y (lenT L n)
  · have := fst_true (q := fun k => badK L G n d f a r c y down (k + 1)) h
    have h2 := hn _ h
    unfold firstN at h2
    rw [h2] at this; exact absurd this (by decide)
  · omega
end
/-- What a ride's closure reads: a track, a brake, a direction, a way. -/
structure RideCtx (tb bb db yb : Nat) (A : Option Addr) (n c : Nat) (L G : Nat → Int) (lf lu d f : Int) (down : Bool) (w : World) : Prop where
  t0 : w.cell? ⟨tb, 0, none⟩ = some (.slice A n c)
  t1 : w.cell? ⟨tb, 1, none⟩ = some (.int .i64 lf)
  t2 : w.cell? ⟨tb, 2, none⟩ = some (.int .i64 lu)
  b0 : w.cell? ⟨bb, 0, none⟩ = some (.int .i64 d)
  b1 : w.cell? ⟨bb, 1, none⟩ = some (.int .i64 f)
  d0 : w.cell? ⟨db, 0, none⟩ = some (.bool down)
  y0 : w.cell? ⟨yb, 0, none⟩ = some (.int .i64 (lenT L n))
  lt : tb < yb
  lb : bb < yb
  ld : db < yb
  ls : yb + 2 < w.heap.size
  hP : CellsIn 0 yb w A (2 * n) (psV L G)
/-- The seconds that were counted, and whether the ride was found unsafe; all else as in w0. -/
structure RideSt (yb : Nat) (w0 w : World) (k : Int) (fo : Bool) : Prop where
  s0 : w.cell? ⟨yb + 1, 0, none⟩ = some (.int .i64 k)
  sf : w.frozen? ⟨yb + 1, 0, none⟩ = false
  f0 : w.cell? ⟨yb + 2, 0, none⟩ = some (.bool fo)
  ff : w.frozen? ⟨yb + 2, 0, none⟩ = false
  keep : Keep (yb + 1) (yb + 3) w0 w
section
variable {tb bb db yb : Nat} {A : Option Addr} {n c : Nat} {L G : Nat → Int} {lf lu d f : Int} {down fo : Bool} {w w0 w' : World} {k : Int}
theorem Keep.cellAt {lo hi b o : Nat} (h : Keep lo hi w w') (hb : b < w.heap.size) (hn : b < lo ∨ hi ≤ b) : w'.cell? ⟨b, o, none⟩ = w.cell? ⟨b, o, none⟩ :=
  World.cell?_of_block (a := ⟨b, o, none⟩) (h.block b hb (by omega))
theorem Keep.frozenAt {lo hi b o : Nat} (h : Keep lo hi w w') (hb : b < w.heap.size) (hn : b < lo ∨ hi ≤ b) : w'.frozen? ⟨b, o, none⟩ = w.frozen? ⟨b, o, none⟩ :=
  World.frozen?_of_block (a := ⟨b, o, none⟩) (h.block b hb (by omega))
theorem RideCtx.keep (h : RideCtx tb bb db yb A n c L G lf lu d f down w) (k : Keep (yb + 1) (yb + 3) w w') : RideCtx tb bb db yb A n c L G lf lu d f down w' := by
  have h1 := h.lt; have h2 := h.lb; have h3 := h.ld; have h4 := h.ls
  exact ⟨(k.cellAt (by omega) (by omega)).trans h.t0, (k.cellAt (by omega) (by omega)).trans h.t1, (k.cellAt (by omega) (by omega)).trans h.t2, (k.cellAt (by omega) (by omega)).trans h.b0, (k.cellAt (by omega) (by omega)).trans h.b1,
    (k.cellAt (by omega) (by omega)).trans h.d0, (k.cellAt (by omega) (by omega)).trans h.y0, h1, h2, h3, Nat.lt_of_lt_of_le h4 k.size, h.hP.keep k (by omega)⟩
theorem RideSt.below (h : RideSt yb w0 w k fo) (hb : Below w.heap.size w w') : RideSt yb w0 w' k fo :=
  ⟨(hb.cell (p := ⟨yb + 1, 0, none⟩) (World.block_lt_of_cell? w _ h.s0)).trans h.s0, (hb.frozen (p := ⟨yb + 1, 0, none⟩) (World.block_lt_of_cell? w _ h.s0)).trans h.sf,
   (hb.cell (p := ⟨yb + 2, 0, none⟩) (World.block_lt_of_cell? w _ h.f0)).trans h.f0, (hb.frozen (p := ⟨yb + 2, 0, none⟩) (World.block_lt_of_cell? w _ h.f0)).trans h.ff, h.keep.thenBelow hb⟩
theorem RideSt.tick (h : RideSt yb w0 w k fo) (m : Int) : RideSt yb w0 (w.setCell ⟨yb + 1, 0, none⟩ (.int .i64 m)) m fo :=
  ⟨World.cell?_setCell_same _ _ _ h.s0, by rw [World.frozen?_setCell]; exact h.sf, cell_far h.f0 (by omega), by rw [World.frozen?_setCell]; exact h.ff, h.keep.set (by omega) (by omega)⟩
theorem RideSt.mark (h : RideSt yb w0 w k fo) (m : Bool) : RideSt yb w0 (w.setCell ⟨yb + 2, 0, none⟩ (.bool m)) k m :=
  ⟨cell_far h.s0 (by omega), by rw [World.frozen?_setCell]; exact h.sf, World.cell?_setCell_same _ _ _ h.f0, by rw [World.frozen?_setCell]; exact h.ff, h.keep.set (by omega) (by omega)⟩
end
end Go.Proofs.Ytcnnhklbilcbaaa
