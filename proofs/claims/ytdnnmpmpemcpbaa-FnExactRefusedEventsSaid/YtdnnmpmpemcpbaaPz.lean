/-
  Plain definitions: a door in a block of its own, events of a door one after another.
-/
import Derived.Test.YtdnnmpmpemcpbaaPd
import Derived.Test.YtdnnmpmpemcpbaaPt
import Derived.Test.YtdnnmpmpemcpbaaPk
namespace Go.Proofs.Ytdnnmpmpemcpbaa
open Go.RowKit
set_option linter.unusedVariables false
set_option linter.unusedSimpArgs false

def drE (d : Dr) (Z : Nat → Int) : Nat → Dr
  | 0 => d
  | k + 1 => doorStep (drE d Z k) (Z k)
theorem drE_ok {d : Dr} {Z : Nat → Int} (h : d.ok = true) (k : Nat) : (drE d Z k).ok = true := by
  induction k with
  | zero => exact h
  | succ k ih => exact doorStep_ok ih
def refB (d : Dr) (Z : Nat → Int) (k : Nat) : Bool := !doorMay (drE d Z k) (Z k)
def refL (d : Dr) (Z : Nat → Int) (n : Nat) : List Int := accB (refB d Z) (fun j => (j : Int)) n
theorem refL_len (d : Dr) (Z : Nat → Int) (n : Nat) : (refL d Z n).length ≤ n := accB_len _ _ _
theorem refL_no {d : Dr} {Z : Nat → Int} {k : Nat} (h : doorMay (drE d Z k) (Z k) = false) : refL d Z (k + 1) = refL d Z k ++ [(k : Int)] := accB_yes (by unfold refB; rw [h]; rfl)
theorem refL_yes {d : Dr} {Z : Nat → Int} {k : Nat} (h : doorMay (drE d Z k) (Z k) = true) : refL d Z (k + 1) = refL d Z k := accB_no (by unfold refB; rw [h]; rfl)
def badDv (Z : Nat → Int) (n : Nat) : Bool := any (fun j => !inB (Z j) 1 4) n
def drC (d : Dr) (Z : Nat → Int) (n : Nat) : Int := if d.ok = true then (if n ≤ 60 then (if badDv Z n = true then 2 else 0) else 2) else 1
def drO (d : Dr) (Z : Nat → Int) (n : Nat) : Dr := if drC d Z n = 0 then drE d Z n else Dr.zero
def drL (d : Dr) (Z : Nat → Int) (n : Nat) : List Int := if drC d Z n = 0 then refL d Z n else []
theorem dr_c1 {d : Dr} {Z : Nat → Int} {n : Nat} (h : d.ok = false) : drC d Z n = 1 := by unfold drC; rw [h, if_neg (by decide)]
theorem dr_c2n {d : Dr} {Z : Nat → Int} {n : Nat} (h : d.ok = true) (h3 : ¬ n ≤ 60) : drC d Z n = 2 := by unfold drC; rw [h, if_pos rfl, if_neg h3]
theorem dr_c2b {d : Dr} {Z : Nat → Int} {n : Nat} (h : d.ok = true) (h3 : n ≤ 60) (h2 : badDv Z n = true) : drC d Z n = 2 := by unfold drC; rw [h, if_pos rfl, if_pos h3, h2, if_pos rfl]
theorem dr_c0 {d : Dr} {Z : Nat → Int} {n : Nat} (h : d.ok = true) (h3 : n ≤ 60) (h2 : badDv Z n = false) : drC d Z n = 0 := by unfold drC; rw [h, if_pos rfl, if_pos h3, h2, if_neg (by decide)]
theorem dr_0 {d : Dr} {Z : Nat → Int} {n : Nat} (h : drC d Z n = 0) : d.ok = true ∧ n ≤ 60 ∧ badDv Z n = false := by
  cases h1 : d.ok
  · rw [dr_c1 h1] at h; simp at h
  · by_cases h2 : n ≤ 60
    · cases h3 : badDv Z n
      · exact ⟨rfl, h2, rfl⟩
      · rw [dr_c2b h1 h2 h3] at h; simp at h
    · rw [dr_c2n h1 h2] at h; simp at h
theorem dr_x {d : Dr} {Z : Nat → Int} {n : Nat} {c : Int} (h : drC d Z n = c) (hc : c ≠ 0) : drC d Z n = c ∧ drO d Z n = Dr.zero ∧ drL d Z n = [] := by
  refine ⟨h, ?_, ?_⟩
  · unfold drO; rw [if_neg (by rw [h]; exact hc)]
  · unfold drL; rw [if_neg (by rw [h]; exact hc)]
theorem dr_ok {d : Dr} {Z : Nat → Int} {n : Nat} (h : drC d Z n = 0) : drC d Z n = 0 ∧ drO d Z n = drE d Z n ∧ drL d Z n = refL d Z n := by
  refine ⟨h, ?_, ?_⟩
  · unfold drO; rw [if_pos h]
  · unfold drL; rw [if_pos h]
theorem badDv_at {Z : Nat → Int} {n j : Nat} (h : badDv Z n = false) (hj : j < n) : inB (Z j) 1 4 = true := by
  have := any_false.1 h j hj
  simpa using this

def drV3 (x : Dr) (q : Nat) : Value := if q = 0 then .int .i64 x.p else if q = 1 then .int .i64 x.k else .int .i64 x.r
/-- Block g of w holds the door x, and may be written. -/
def DrAt (w : World) (g : Nat) (x : Dr) : Prop := OwnIn g (g + 1) w (some ⟨g, 0, none⟩) 3 (drV3 x)
section
variable {w w' : World} {g : Nat} {x y : Dr}
theorem DrAt.below (h : DrAt w g x) (hb : Below w.heap.size w w') : DrAt w' g x := OwnIn.below h hb
theorem DrAt.lt (h : DrAt w g x) : g < w.heap.size := OwnIn.block h (by decide)
theorem DrAt.c0 (h : DrAt w g x) : w.cell? ⟨g, 0, none⟩ = some (.int .i64 x.p) := OwnIn.at h (by decide)
theorem DrAt.c1 (h : DrAt w g x) : w.cell? ⟨g, 1, none⟩ = some (.int .i64 x.k) := OwnIn.at h (by decide)
theorem DrAt.c2 (h : DrAt w g x) : w.cell? ⟨g, 2, none⟩ = some (.int .i64 x.r) := OwnIn.at h (by decide)
theorem DrAt.fr (h : DrAt w g x) {j : Nat} (hj : j < 3) : w.frozen? ⟨g, j, none⟩ = false := by
  obtain ⟨g', e, _, _, _, hc⟩ := h (by decide)
  have e2 : g = g' := by injection e with e1; injection e1
  subst e2
  exact (hc j hj).2
theorem drV3_made (p k r : Int) (q : Nat) (hq : q < 3) : (#[Value.int .i64 p, .int .i64 k, .int .i64 r] : Array Value)[q]?.getD (.int .i64 0) = drV3 ⟨p, k, r⟩ q := by
  rcases (show q = 0 ∨ q = 1 ∨ q = 2 by omega) with rfl | rfl | rfl <;> rfl
theorem DrAt.made (w : World) (t : TypeId) (p k r : Int) : DrAt (w.alloc (.cells #[.int .i64 p, .int .i64 k, .int .i64 r] t)) w.heap.size ⟨p, k, r⟩ :=
  (own_new w #[.int .i64 p, .int .i64 k, .int .i64 r] t (Nat.le_refl _) (Nat.lt_succ_self _)).cong (fun q hq => drV3_made p k r q hq)
theorem DrAt.put (h : DrAt w g x) (p k r : Int) : DrAt (((w.setCell ⟨g, 0, none⟩ (.int .i64 p)).setCell ⟨g, 1, none⟩ (.int .i64 k)).setCell ⟨g, 2, none⟩ (.int .i64 r)) g ⟨p, k, r⟩ :=
  (OwnIn.set (OwnIn.set (OwnIn.set h (show 0 < 3 by decide) _) (show 1 < 3 by decide) _) (show 2 < 3 by decide) _).cong (fun q hq => by
    rcases (show q = 0 ∨ q = 1 ∨ q = 2 by omega) with rfl | rfl | rfl <;> rfl)
theorem keep_put3 (w : World) (g : Nat) (u0 u1 u2 : Value) : Keep g (g + 1) w (((w.setCell ⟨g, 0, none⟩ u0).setCell ⟨g, 1, none⟩ u1).setCell ⟨g, 2, none⟩ u2) :=
  (((Keep.refl _ _ w).set (Nat.le_refl _) (Nat.lt_succ_self _)).set (Nat.le_refl _) (Nat.lt_succ_self _)).set (Nat.le_refl _) (Nat.lt_succ_self _)
theorem DrAt.keep {lo hi : Nat} (h : DrAt w g x) (k : Keep lo hi w w') (hd : g + 1 ≤ lo ∨ hi ≤ g) : DrAt w' g x := OwnIn.keep h k hd
theorem size_put3 (w : World) (g : Nat) (u0 u1 u2 : Value) : (((w.setCell ⟨g, 0, none⟩ u0).setCell ⟨g, 1, none⟩ u1).setCell ⟨g, 2, none⟩ u2).heap.size = w.heap.size := by simp [World.setCell]
end
end Go.Proofs.Ytdnnmpmpemcpbaa
