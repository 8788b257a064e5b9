/-
  Plain definitions: after how many ticks a door is shut. No program in sight.
-/
import Derived.Test.YtbmhhhpgmbfdoaaPd
namespace Go.Proofs.Ytbmhhhpgmbfdoaa
open Go.RowKit
set_option linter.unusedVariables false
set_option linter.unusedSimpArgs false

/-- After how many ticks a door is shut. -/
def leftD (d : Dr) : Int := if d.p = 0 then 0 else if d.p = 3 then 3 - d.k else if d.p = 2 then 3 else 6 - d.k
/-- A tick behind which an open door is shutting. -/
def pullD (d : Dr) : Dr := tickD (if d.p = 2 then ⟨3, 0, 0⟩ else d)
theorem pullD_ok {d : Dr} (h : d.ok = true) : (pullD d).ok = true := by
  unfold pullD
  split
  · exact tickD_ok rfl
  · exact tickD_ok h
theorem pullD_left {d : Dr} (h : d.ok = true) (h0 : d.p ≠ 0) : leftD (pullD d) = leftD d - 1 := by
  rw [ok_iff] at h
  obtain ⟨p, k, r⟩ := d
  dsimp only at h h0
  rcases (show p = 2 ∨ p = 1 ∨ p = 3 by omega) with rfl | rfl | rfl
  · simp [pullD, tickD, moves, leftD]
  · by_cases hk : k + 1 < 3
    · simp [pullD, tickD, moves, leftD, hk]; omega
    · by_cases hr : r = 0
      · simp [pullD, tickD, moves, leftD, hk, hr]; omega
      · simp [pullD, tickD, moves, leftD, hk, hr]; omega
  · by_cases hk : k + 1 < 3
    · simp [pullD, tickD, moves, leftD, hk]; omega
    · simp [pullD, tickD, moves, leftD, hk]; omega
theorem leftD_pos {d : Dr} (h : d.ok = true) : 0 ≤ leftD d ∧ leftD d ≤ 6 ∧ (d.p = 0 ↔ leftD d = 0) := by
  rw [ok_iff] at h
  unfold leftD
  repeat' split
  all_goals omega
def shutCode (d : Dr) : Int := if d.ok = true then 0 else 1
def shutV (d : Dr) : Int := if d.ok = true then leftD d else 0
end Go.Proofs.Ytbmhhhpgmbfdoaa
