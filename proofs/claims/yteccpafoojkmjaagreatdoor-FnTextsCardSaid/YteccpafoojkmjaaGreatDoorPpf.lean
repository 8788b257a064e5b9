/-
  Plain definitions: speed profiles and rides second by second. No program in sight.
-/
import Derived.Test.YteccpafoojkmjaaGreatDoorM1
namespace Go.Proofs.YteccpafoojkmjaaGreatDoor
open Go.RowKit
set_option linter.unusedVariables false
set_option linter.unusedSimpArgs false

def profOk (a r c y : Int) : Bool := inB a 1 2000 && (inB r 100 15000 && (inB c 100 r && inB y 0 3000000))
def mayV (a c y l v : Int) : Bool := decide (v * v ≤ c * c + 2 * a * max 0 (l - v - y))
def highV (a r c s : Int) : Int := max c (min r (s + a))
/-- How many speeds from the creeping one on are slow enough. -/
def topN (a r c y s l : Int) : Nat := fst (fun j => !mayV a c y l (c + j)) ((highV a r c s - c).toNat + 1)
def nxtV (a r c y s l : Int) : Int := min (c + topN a r c y s l - 1) l
section
variable {a r c y s l m n : Int}
theorem prof_at (h : profOk a r c y = true) : (1 ≤ a ∧ a ≤ 2000) ∧ (100 ≤ r ∧ r ≤ 15000) ∧ (100 ≤ c ∧ c ≤ r) ∧ (0 ≤ y ∧ y ≤ 3000000) := by
  unfold profOk at h
  simp only [Bool.and_eq_true, inB_true] at h
  exact ⟨h.1, h.2.1, h.2.2.1, h.2.2.2⟩
theorem may_mono {v v' : Int} (ha : 0 ≤ a) (h0 : 0 ≤ v) (h : v ≤ v') (hm : mayV a c y l v' = true) : mayV a c y l v = true := by
  unfold mayV at *
  rw [decide_eq_true_eq] at *
  have h1 : v * v ≤ v' * v' := Int.mul_le_mul h h h0 (by omega)
  have h2 : 2 * a * max 0 (l - v' - y) ≤ 2 * a * max 0 (l - v - y) := Int.mul_le_mul_of_nonneg_left (by omega) (by omega)
  omega
theorem may_low (ha : 0 ≤ a) : mayV a c y l c = true := by
  unfold mayV
  rw [decide_eq_true_eq]
  have h2 : 0 ≤ 2 * a * max 0 (l - c - y) := Int.mul_nonneg (by omega) (by omega)
  omega
theorem top_le : topN a r c y s l ≤ (highV a r c s - c).toNat + 1 := fst_le _ _
theorem top_pos (ha : 0 ≤ a) : 0 < topN a r c y s l := by
  refine Nat.pos_of_ne_zero fun e => ?_
  have ht := fst_true (q := fun j : Nat => !mayV a c y l (c + j)) (n := (highV a r c s - c).toNat + 1) (by unfold topN at e; omega)
  unfold topN at e
  rw [e] at ht
  have hz := may_low (a := a) (c := c) (y := y) (l := l) ha
  simp at ht
  rw [ht] at hz; exact absurd hz (by decide)
theorem top_lt (h0 : c ≤ m) (h : m < c + topN a r c y s l) : mayV a c y l m = true := by
  have := fst_false (q := fun j : Nat => !mayV a c y l (c + j)) (j := (m - c).toNat) (n := (highV a r c s - c).toNat + 1) (by unfold topN at h; omega)
  rw [Int.toNat_of_nonneg (by omega), show c + (m - c) = m by omega] at this
  simpa using this
theorem top_ge (ha : 0 ≤ a) (hc : 0 ≤ c) (h : c + topN a r c y s l ≤ m) (hm : m ≤ highV a r c s) : mayV a c y l m = false := by
  have ht := fst_true (q := fun j : Nat => !mayV a c y l (c + j)) (n := (highV a r c s - c).toNat + 1) (by unfold topN at h; omega)
  cases hw : mayV a c y l m
  · rfl
  · have := may_mono (v := c + (fst (fun j : Nat => !mayV a c y l (c + j)) ((highV a r c s - c).toNat + 1) : Nat)) ha (by omega) (by unfold topN at h; omega) hw
    simp at ht
    rw [ht] at this; exact absurd this (by decide)
theorem high_bd (h : profOk a r c y = true) : c ≤ highV a r c s ∧ highV a r c s ≤ r := by
  obtain ⟨_, _, h3, _⟩ := prof_at h
  unfold highV; omega
theorem top_bd (h : profOk a r c y = true) : 100 ≤ c + topN a r c y s l - 1 ∧ c + topN a r c y s l - 1 ≤ highV a r c s := by
  obtain ⟨h1, h2, h3, h4⟩ := prof_at h
  have a1 := top_le (a := a) (r := r) (c := c) (y := y) (s := s) (l := l)
  have a2 := top_pos (a := a) (r := r) (c := c) (y := y) (s := s) (l := l) (by omega)
  have a3 := high_bd (s := s) h
  omega
theorem next_bd (h : profOk a r c y = true) (hl : 0 ≤ l) : 0 ≤ nxtV a r c y s l ∧ nxtV a r c y s l ≤ l ∧ nxtV a r c y s l ≤ 15000 ∧ (1 ≤ l → 1 ≤ nxtV a r c y s l) := by
  obtain ⟨h1, h2, h3, h4⟩ := prof_at h
  have a1 := top_bd (s := s) (l := l) h
  have a3 := high_bd (s := s) h
  unfold nxtV; omega
end
/-- The place and the speed after k seconds of a ride of n millimetres. -/
def ridePS (a r c y n : Int) : Nat → Int × Int
  | 0 => (0, 0)
  | k + 1 => ((ridePS a r c y n k).1 + nxtV a r c y (ridePS a r c y n k).2 (n - (ridePS a r c y n k).1), nxtV a r c y (ridePS a r c y n k).2 (n - (ridePS a r c y n k).1))
def placeK (a r c y n : Int) (k : Nat) : Int := (ridePS a r c y n k).1
def speedK (a r c y n : Int) (k : Nat) : Int := (ridePS a r c y n k).2
/-- How many seconds a ride takes. -/
def timeN (a r c y n : Int) : Nat := fst (fun k => decide (n ≤ placeK a r c y n k)) (n.toNat + 1)
section
variable {a r c y n : Int}
theorem speed_succ (k : Nat) : speedK a r c y n (k + 1) = nxtV a r c y (speedK a r c y n k) (n - placeK a r c y n k) := rfl
theorem place_succ (k : Nat) : placeK a r c y n (k + 1) = placeK a r c y n k + speedK a r c y n (k + 1) := rfl
theorem place_0 : placeK a r c y n 0 = 0 := rfl
theorem speed_0 : speedK a r c y n 0 = 0 := rfl
theorem ride_bd (h : profOk a r c y = true) (hn : 0 ≤ n) : ∀ k : Nat, (0 ≤ placeK a r c y n k ∧ placeK a r c y n k ≤ n) ∧ (0 ≤ speedK a r c y n k ∧ speedK a r c y n k ≤ 15000) ∧ min (k : Int) n ≤ placeK a r c y n k := by
  intro k
  induction k with
  | zero => rw [place_0, speed_0]; omega
  | succ k ih =>
    have b := next_bd (s := speedK a r c y n k) (l := n - placeK a r c y n k) h (by omega)
    rw [place_succ, speed_succ]
    generalize nxtV a r c y (speedK a r c y n k) (n - placeK a r c y n k) = v at *
    omega
theorem time_le : timeN a r c y n ≤ n.toNat + 1 := fst_le _ _
theorem time_lt {k : Nat} (h : k < timeN a r c y n) : placeK a r c y n k < n := by
  have := fst_false (q := fun k => decide (n ≤ placeK a r c y n k)) h
  simpa using this
theorem time_at (h : profOk a r c y = true) (hn : 0 ≤ n) : placeK a r c y n (timeN a r c y n) = n := by
  have b := ride_bd h hn
  have hlt : timeN a r c y n < n.toNat + 1 := by
    have h1 := time_le (a := a) (r := r) (c := c) (y := y) (n := n)
    by_cases h2 : timeN a r c y n < n.toNat + 1
    · exact h2
    · have := time_lt (a := a) (r := r) (c := c) (y := y) (n := n) (k := n.toNat) (by omega)
      have := (b n.toNat).2.2
      omega
  have ht := fst_true (q := fun k => decide (n ≤ placeK a r c y n k)) hlt
  simp only [decide_eq_true_eq] at ht
  have := (b (timeN a r c y n)).1
  have e : fst (fun k => decide (n ≤ placeK a r c y n k)) (n.toNat + 1) = timeN a r c y n := rfl
  rw [e] at ht
  omega
theorem time_ge (h : profOk a r c y = true) (hn : 0 ≤ n) {k : Nat} (hk : k ≤ timeN a r c y n) (hp : n ≤ placeK a r c y n k) : k = timeN a r c y n := by
  by_cases h1 : k < timeN a r c y n
  · have := time_lt h1; omega
  · omega
end
attribute [irreducible] topN timeN ridePS
/-- The way that is left to a place. -/
def leftV (n x : Int) (down : Bool) : Int := if down then x else n - x
end Go.Proofs.YteccpafoojkmjaaGreatDoor
