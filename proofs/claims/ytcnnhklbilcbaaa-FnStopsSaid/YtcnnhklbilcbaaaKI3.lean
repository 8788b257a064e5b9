/-
  Contracts: the way in which a car on a track stops.
-/
import Derived.Test.YtcnnhklbilcbaaaKH3
namespace Go.Proofs.Ytcnnhklbilcbaaa
open Go.RowKit
set_option linter.unusedVariables false
set_option linter.unusedSimpArgs false

def stopsC (L G : Nat → Int) (n : Nat) (lf lu d f x s : Int) (down : Bool) : Int :=
  if tbC L G n lf lu d f x s = 0 then (if forceV f (worstF G (G 0) down n) down ≤ 0 then 3 else 0) else tbC L G n lf lu d f x s
def stopsV (L G : Nat → Int) (n : Nat) (lf lu d f x s : Int) (down : Bool) : Int :=
  if stopsC L G n lf lu d f x s down = 0 then wayV d (forceV f (worstF G (G 0) down n) down) s else 0
section
variable {L G : Nat → Int} {n : Nat} {lf lu d f x s : Int} {down : Bool}
theorem tb_at (h : tbC L G n lf lu d f x s = 0) : trackOk L G n lf lu = true ∧ validBrake d f = true ∧ inB x 0 (lenT L n) = true ∧ inB s 0 15000 = true := by
  unfold tbC at h
  split at h
  · rename_i h1
    split at h
    · rename_i h2
      rw [Bool.and_eq_true] at h1 h2
      exact ⟨h1.1, h1.2, h2.1, h2.2⟩
    · simp at h
  · simp at h
theorem stops_e (h : tbC L G n lf lu d f x s ≠ 0) : stopsC L G n lf lu d f x s down = tbC L G n lf lu d f x s ∧ stopsV L G n lf lu d f x s down = 0 := by
  have e : stopsC L G n lf lu d f x s down = tbC L G n lf lu d f x s := by unfold stopsC; rw [if_neg h]
  exact ⟨e, by unfold stopsV; rw [if_neg (by rw [e]; exact h)]⟩
theorem stops_3 (h : tbC L G n lf lu d f x s = 0) (h2 : forceV f (worstF G (G 0) down n) down ≤ 0) : stopsC L G n lf lu d f x s down = 3 ∧ stopsV L G n lf lu d f x s down = 0 := by
  have e : stopsC L G n lf lu d f x s down = 3 := by unfold stopsC; rw [if_pos h, if_pos h2]
  exact ⟨e, by unfold stopsV; rw [if_neg (by rw [e]; decide)]⟩
theorem stops_0 (h : tbC L G n lf lu d f x s = 0) (h2 : ¬ forceV f (worstF G (G 0) down n) down ≤ 0) : stopsC L G n lf lu d f x s down = 0 ∧ stopsV L G n lf lu d f x s down = wayV d (forceV f (worstF G (G 0) down n) down) s := by
  have e : stopsC L G n lf lu d f x s down = 0 := by unfold stopsC; rw [if_pos h, if_neg h2]
  exact ⟨e, by unfold stopsV; rw [if_pos e]⟩
end

end Go.Proofs.Ytcnnhklbilcbaaa
