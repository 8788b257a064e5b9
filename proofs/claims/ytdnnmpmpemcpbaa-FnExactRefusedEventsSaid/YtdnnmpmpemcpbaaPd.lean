/-
  Plain definitions: doors. No program in sight.
-/
import Derived.Test.YtdnnmpmpemcpbaaPl
namespace Go.Proofs.Ytdnnmpmpemcpbaa
open Go.RowKit
set_option linter.unusedVariables false
set_option linter.unusedSimpArgs false

structure Dr where
  p : Int
  k : Int
  r : Int
deriving DecidableEq
def Dr.val (d : Dr) : Value := .agg #[.int .i64 d.p, .int .i64 d.k, .int .i64 d.r]
def Dr.zero : Dr := ⟨0, 0, 0⟩
def Dr.ok (d : Dr) : Bool := validDoor d.p d.k d.r
/-- Looser than valid: what the steps need. -/
def Dr.fits (d : Dr) : Prop := 0 ≤ d.p ∧ d.p ≤ 3 ∧ 0 ≤ d.k ∧ d.k ≤ 2 ∧ 0 ≤ d.r ∧ d.r ≤ 3
theorem Dr.ok_fits {d : Dr} (h : d.ok = true) : d.fits := by
  unfold Dr.ok validDoor at h
  rw [Bool.and_eq_true, inB_true] at h
  obtain ⟨⟨h1, h2⟩, h3⟩ := h
  split at h3
  · rw [Bool.and_eq_true, inB_true, inB_true] at h3
    exact ⟨h1, h2, h3.1.1, h3.1.2, h3.2.1, h3.2.2⟩
  · rw [Bool.and_eq_true, beq_iff_eq, beq_iff_eq] at h3
    exact ⟨h1, h2, by omega, by omega, by omega, by omega⟩
def tickD (d : Dr) : Dr := if moves d.p = true then (if d.k + 1 < 3 then ⟨d.p, d.k + 1, d.r⟩ else if d.p = 3 then ⟨0, 0, 0⟩ else if d.r = 0 then ⟨2, 0, 0⟩ else ⟨3, 0, d.r⟩) else d
def doorMay (d : Dr) (ev : Int) : Bool := if ev = 4 then true else if ev = 1 then (d.p == 0 || d.p == 3) else if ev = 2 then d.p == 2 else (d.p == 3 && decide (d.r < 3))
def doorStep (d : Dr) (ev : Int) : Dr := if doorMay d ev = true then (if ev = 4 then tickD d else if ev = 1 then ⟨1, 0, 0⟩ else if ev = 2 then ⟨3, 0, 0⟩ else ⟨1, 0, d.r + 1⟩) else d
theorem moves_true {p : Int} : moves p = true ↔ p = 1 ∨ p = 3 := by simp [moves]
theorem ok_iff (d : Dr) : d.ok = true ↔ ((d.p = 0 ∨ d.p = 2) ∧ d.k = 0 ∧ d.r = 0) ∨ ((d.p = 1 ∨ d.p = 3) ∧ 0 ≤ d.k ∧ d.k ≤ 2 ∧ 0 ≤ d.r ∧ d.r ≤ 3) := by
  unfold Dr.ok validDoor
  rw [Bool.and_eq_true, inB_true]
  by_cases h : moves d.p = true
  · rw [if_pos h, Bool.and_eq_true, inB_true, inB_true]
    rw [moves_true] at h
    omega
  · rw [if_neg h, Bool.and_eq_true, beq_iff_eq, beq_iff_eq]
    rw [moves_true] at h
    omega
theorem tickD_ok {d : Dr} (h : d.ok = true) : (tickD d).ok = true := by
  rw [ok_iff] at h ⊢
  unfold tickD
  by_cases hm : moves d.p = true
  · rw [if_pos hm]
    rw [moves_true] at hm
    repeat' split
    all_goals (dsimp only; omega)
  · rw [if_neg hm]; exact h
theorem doorStep_ok {d : Dr} {ev : Int} (h : d.ok = true) : (doorStep d ev).ok = true := by
  unfold doorStep
  split
  · rename_i hm
    unfold doorMay at hm
    split
    · exact tickD_ok h
    · split
      · rfl
      · split
        · rfl
        · rw [if_neg ‹_›, if_neg ‹_›, if_neg ‹_›, Bool.and_eq_true, decide_eq_true_eq, beq_iff_eq] at hm
          have := Dr.ok_fits h
          rw [ok_iff]
          unfold Dr.fits at this
          dsimp only
          omega
  · exact h
def doorCode (d : Dr) (ev : Int) : Int := if d.ok = true then (if inB ev 1 4 = true then (if doorMay d ev = true then 0 else 6) else 2) else 1
def doorV (d : Dr) (ev : Int) : Dr := if doorCode d ev = 0 then doorStep d ev else Dr.zero
theorem door_1 {d : Dr} {ev : Int} (h : d.ok = false) : doorCode d ev = 1 ∧ doorV d ev = Dr.zero := by
  have : doorCode d ev = 1 := by simp [doorCode, h]
  exact ⟨this, by simp [doorV, this]⟩
theorem door_2 {d : Dr} {ev : Int} (h : d.ok = true) (h2 : inB ev 1 4 = false) : doorCode d ev = 2 ∧ doorV d ev = Dr.zero := by
  have : doorCode d ev = 2 := by simp [doorCode, h, h2]
  exact ⟨this, by simp [doorV, this]⟩
theorem door_6 {d : Dr} {ev : Int} (h : d.ok = true) (h2 : inB ev 1 4 = true) (h3 : doorMay d ev = false) : doorCode d ev = 6 ∧ doorV d ev = Dr.zero := by
  have : doorCode d ev = 6 := by simp [doorCode, h, h2, h3]
  exact ⟨this, by simp [doorV, this]⟩
theorem door_0 {d : Dr} {ev : Int} (h : d.ok = true) (h2 : inB ev 1 4 = true) (h3 : doorMay d ev = true) : doorCode d ev = 0 ∧ doorV d ev = doorStep d ev := by
  have : doorCode d ev = 0 := by simp [doorCode, h, h2, h3]
  exact ⟨this, by simp [doorV, this]⟩
end Go.Proofs.Ytdnnmpmpemcpbaa
