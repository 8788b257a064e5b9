/-
  Plain definitions: both brakes together.
-/
import Derived.Test.YtpmdkadfmieieaaPl
namespace Go.Proofs.Ytpmdkadfmieieaa
open Go.RowKit

def bothCode (d f d' f' : Int) : Int := if validBrake d f = true ∧ validBrake d' f' = true then (if validBrake (max d d') (f + f') = true then 0 else 5) else 1
def bothDelay (d f d' f' : Int) : Int := if bothCode d f d' f' = 0 then max d d' else 0
def bothDecel (d f d' f' : Int) : Int := if bothCode d f d' f' = 0 then f + f' else 0
theorem validBrake_bounds {d f : Int} (h : validBrake d f = true) : 0 ≤ d ∧ d ≤ 100 ∧ 1 ≤ f ∧ f ≤ 10000 := by
  unfold validBrake at h; rw [Bool.and_eq_true, inB_true, inB_true] at h; omega
theorem both_1 {d f d' f' : Int} (h : ¬ (validBrake d f = true ∧ validBrake d' f' = true)) : bothCode d f d' f' = 1 ∧ bothDelay d f d' f' = 0 ∧ bothDecel d f d' f' = 0 := by
  have : bothCode d f d' f' = 1 := by unfold bothCode; rw [if_neg h]
  exact ⟨this, by unfold bothDelay; rw [this]; rfl, by unfold bothDecel; rw [this]; rfl⟩
theorem both_5 {d f d' f' : Int} (h1 : validBrake d f = true) (h2 : validBrake d' f' = true) (h3 : validBrake (max d d') (f + f') = false) : bothCode d f d' f' = 5 ∧ bothDelay d f d' f' = 0 ∧ bothDecel d f d' f' = 0 := by
  have : bothCode d f d' f' = 5 := by unfold bothCode; rw [if_pos ⟨h1, h2⟩, h3]; rfl
  exact ⟨this, by unfold bothDelay; rw [this]; rfl, by unfold bothDecel; rw [this]; rfl⟩
theorem both_0 {d f d' f' : Int} (h1 : validBrake d f = true) (h2 : validBrake d' f' = true) (h3 : validBrake (max d d') (f + f') = true) : bothCode d f d' f' = 0 ∧ bothDelay d f d' f' = max d d' ∧ bothDecel d f d' f' = f + f' := by
  have : bothCode d f d' f' = 0 := by unfold bothCode; rw [if_pos ⟨h1, h2⟩, if_pos h3]
  exact ⟨this, by unfold bothDelay; rw [if_pos this], by unfold bothDecel; rw [if_pos this]⟩
end Go.Proofs.Ytpmdkadfmieieaa
