/-
  Plain definitions: tracks. No program in sight.
-/
import Derived.Test.YteccpafoojkmjaaGreatDoorM1
namespace Go.Proofs.YteccpafoojkmjaaGreatDoor
open Go.RowKit
set_option linter.unusedVariables false
set_option linter.unusedSimpArgs false

def lenT (L : Nat → Int) : Nat → Int
  | 0 => 0
  | k + 1 => lenT L k + L k
def secB (L G : Nat → Int) (k : Nat) : Bool := inB (L k) 1 3000000 && inB (G k) 0 900
def trackOk (L G : Nat → Int) (n : Nat) (lf lu : Int) : Bool :=
  decide (1 ≤ n) && (decide (n ≤ 12) && (!any (fun k => !secB L G k) n && (decide (lenT L n ≤ 3000000) && (inB lf 0 (lenT L n) && inB lu lf (lenT L n)))))
section
variable {L G : Nat → Int} {n : Nat} {lf lu : Int}
theorem secs_at (h : any (fun k => !secB L G k) n = false) {k : Nat} (hk : k < n) : 1 ≤ L k ∧ L k ≤ 3000000 ∧ 0 ≤ G k ∧ G k ≤ 900 := by
  have h1 := any_false.1 h k hk
  have h2 : secB L G k = true := by simpa using h1
  unfold secB at h2
  rw [Bool.and_eq_true, inB_true, inB_true] at h2
  omega
theorem lenT_le (h : ∀ k, k < n → 1 ≤ L k ∧ L k ≤ 3000000) : ∀ k, k ≤ n → 0 ≤ lenT L k ∧ lenT L k ≤ 3000000 * k := by
  intro k
  induction k with
  | zero => intro _; simp [lenT]
  | succ k ih =>
    intro hk
    have h1 := ih (by omega)
    have h2 := h k (by omega)
    unfold lenT
    omega
theorem track_no0 (h : ¬ 1 ≤ n) : trackOk L G n lf lu = false := by unfold trackOk; rw [decide_eq_false h]; rfl
theorem track_no12 (h : ¬ n ≤ 12) : trackOk L G n lf lu = false := by unfold trackOk; rw [decide_eq_false h]; simp
theorem track_nos (h : any (fun k => !secB L G k) n = true) : trackOk L G n lf lu = false := by unfold trackOk; rw [h]; simp
theorem track_yes (h1 : 1 ≤ n) (h2 : n ≤ 12) (h : any (fun k => !secB L G k) n = false) : trackOk L G n lf lu = (decide (lenT L n ≤ 3000000) && (inB lf 0 (lenT L n) && inB lu lf (lenT L n))) := by
  unfold trackOk; rw [h, decide_eq_true h1, decide_eq_true h2]; simp
theorem track_at (h : trackOk L G n lf lu = true) : 1 ≤ n ∧ n ≤ 12 ∧ any (fun k => !secB L G k) n = false ∧ lenT L n ≤ 3000000 := by
  unfold trackOk at h
  simp only [Bool.and_eq_true, decide_eq_true_eq, Bool.not_eq_true'] at h
  exact ⟨h.1, h.2.1, h.2.2.1, h.2.2.2.1⟩
end
/-- The steepest grade (down) or the flattest (up) of the first k + 1 sections. -/
def worstG (G : Nat → Int) (down : Bool) : Nat → Int
  | 0 => G 0
  | k + 1 => if down then max (worstG G down k) (G k) else min (worstG G down k) (G k)
end Go.Proofs.YteccpafoojkmjaaGreatDoor
