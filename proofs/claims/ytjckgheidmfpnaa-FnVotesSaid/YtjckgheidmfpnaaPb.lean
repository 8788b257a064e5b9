/-
  Plain definitions: rounded quotients, forces of brakes, stopping ways. No program in sight.
-/
import Derived.Test.YtjckgheidmfpnaaPl
namespace Go.Proofs.Ytjckgheidmfpnaa
open Go.RowKit
set_option linter.unusedVariables false
set_option linter.unusedSimpArgs false

def nearV (a b : Int) : Int := if 0 ≤ a then (2 * a + b) / (2 * b) else -((b - 2 * a) / (2 * b))

theorem div_is {a b q r : Int} (hb : 0 < b) (h : b * q + r = a) (h0 : 0 ≤ r) (h1 : r < b) : a / b = q :=
  ((Int.ediv_emod_unique hb).2 ⟨by rw [← h]; omega, h0, h1⟩).1

theorem near_pos {a b : Int} (ha : 0 ≤ a) (hb : 1 ≤ b) : (if b - a % b ≤ a % b then a / b + 1 else a / b) = nearV a b := by
  unfold nearV
  rw [if_pos ha]
  have h := Int.mul_ediv_add_emod a b
  have h0 := Int.emod_nonneg a (show b ≠ 0 by omega)
  have h1 := Int.emod_lt_of_pos a (show 0 < b by omega)
  generalize a / b = q at *
  generalize a % b = r at *
  split
  · refine (div_is (q := q + 1) (r := 2 * r - b) (by omega) ?_ (by omega) (by omega)).symm
    have e : 2 * b * (q + 1) = 2 * (b * q) + 2 * b := by rw [Int.mul_add, Int.mul_assoc, Int.mul_one]
    rw [e]; omega
  · refine (div_is (q := q) (r := 2 * r + b) (by omega) ?_ (by omega) (by omega)).symm
    have e : 2 * b * q = 2 * (b * q) := by rw [Int.mul_assoc]
    rw [e]; omega

theorem nearV_neg {c b : Int} (hc : 0 < c) : nearV (-c) b = -nearV c b := by
  unfold nearV
  rw [if_neg (by omega), if_pos (by omega), show b - 2 * -c = 2 * c + b by omega]
theorem near_neg {a b : Int} (ha : a < 0) (hb : 1 ≤ b) : (if b - (-(a.tmod b)) ≤ -(a.tmod b) then a.tdiv b - 1 else a.tdiv b) = nearV a b := by
  obtain ⟨c, rfl⟩ : ∃ c, a = -c := ⟨-a, by omega⟩
  have e1 : (-c).tdiv b = -(c / b) := by rw [Int.neg_tdiv, Int.tdiv_eq_ediv_of_nonneg (by omega)]
  have e2 : (-c).tmod b = -(c % b) := by rw [Int.neg_tmod, Int.tmod_eq_emod_of_nonneg (by omega)]
  rw [e1, e2, Int.neg_neg, nearV_neg (by omega), ← near_pos (by omega) hb]
  split <;> omega
theorem near_bound {a b : Int} (ha : 0 ≤ a) (hb : 1 ≤ b) : 0 ≤ nearV a b ∧ nearV a b ≤ a + 1 := by
  rw [← near_pos ha hb]
  have h0 : 0 ≤ a / b := Int.ediv_nonneg ha (by omega)
  have h1 : a / b ≤ a := Int.ediv_le_self b ha
  split <;> omega
theorem near_bound' {a b : Int} (hb : 1 ≤ b) : -(a.natAbs : Int) - 1 ≤ nearV a b ∧ nearV a b ≤ a.natAbs + 1 := by
  by_cases ha : 0 ≤ a
  · have := near_bound ha hb; omega
  · have := near_bound (a := -a) (b := b) (by omega) hb
    unfold nearV at *
    rw [if_pos (by omega)] at this
    rw [if_neg ha, show b - 2 * a = 2 * -a + b by omega]
    omega

def upV (a b : Int) : Int := (a + b - 1) / b
theorem upV_bound {a b : Int} (ha : 0 ≤ a) (hb : 1 ≤ b) : 0 ≤ upV a b ∧ upV a b ≤ a := by
  unfold upV
  refine ⟨Int.ediv_nonneg (by omega) (by omega), ?_⟩
  have : (a + b - 1) / b < a + 1 := by
    refine Int.ediv_lt_of_lt_mul (by omega) ?_
    have e : a ≤ a * b := by
      have := Int.mul_le_mul_of_nonneg_left hb ha
      omega
    rw [Int.add_mul]; omega
  omega
theorem upV_mono {a a' b : Int} (h : a ≤ a') (hb : 1 ≤ b) : upV a b ≤ upV a' b := Int.ediv_le_ediv (by omega) (by omega)
theorem upV_anti {a b b' : Int} (ha : 0 ≤ a) (hb : 1 ≤ b) (h : b ≤ b') : upV a b' ≤ upV a b := by
  unfold upV
  have h1 : (a + b - 1) / b < (a + b - 1) / b + 1 := by omega
  have h2 := Int.lt_mul_of_ediv_lt (show 0 < b by omega) h1
  have : (a + b' - 1) / b' < (a + b - 1) / b + 1 := by
    refine Int.ediv_lt_of_lt_mul (by omega) ?_
    have hn : 0 ≤ (a + b - 1) / b := Int.ediv_nonneg (by omega) (by omega)
    have := Int.mul_le_mul_of_nonneg_left h hn
    rw [Int.add_mul, Int.one_mul] at *
    omega
  omega

/-- By how much a car becomes slower in a second. -/
def forceV (f g : Int) (down : Bool) : Int := if down = true then f - nearV (g * 981) 100 else f + nearV (g * 981) 100
/-- The way in which a car stops, for a positive force F. -/
def wayV (d F s : Int) : Int := upV (s * d) 10 + upV (s * s) (2 * F)
def askV (d f s g : Int) : Int := if validBrake d f = true then (if inB s 0 15000 = true ∧ inB g 0 900 = true then 0 else 2) else 1
def stopCode (d f s g : Int) (down : Bool) : Int := if askV d f s g = 0 then (if forceV f g down ≤ 0 then 3 else 0) else askV d f s g
def stopWayV (d f s g : Int) (down : Bool) : Int := if stopCode d f s g down = 0 then wayV d (forceV f g down) s else 0
def stopTenthsV (d f s g : Int) (down : Bool) : Int := if stopCode d f s g down = 0 then d + upV (10 * s) (forceV f g down) else 0
theorem validBrake_bd {d f : Int} (h : validBrake d f = true) : 0 ≤ d ∧ d ≤ 100 ∧ 1 ≤ f ∧ f ≤ 10000 := by
  unfold validBrake at h; rw [Bool.and_eq_true, inB_true, inB_true] at h; omega
theorem force_bd {f g : Int} {down : Bool} (h1 : 1 ≤ f) (h2 : f ≤ 10000) (h3 : 0 ≤ g) (h4 : g ≤ 900) : -9000 ≤ forceV f g down ∧ forceV f g down ≤ 19000 := by
  have e : nearV (g * 981) 100 = (2 * (g * 981) + 100) / 200 := by unfold nearV; rw [if_pos (by omega)]; rfl
  unfold forceV
  split <;> omega
theorem force_up {f g : Int} (h1 : 1 ≤ f) (h3 : 0 ≤ g) : f ≤ forceV f g false := by
  have e : nearV (g * 981) 100 = (2 * (g * 981) + 100) / 200 := by unfold nearV; rw [if_pos (by omega)]; rfl
  unfold forceV
  rw [if_neg (by decide)]
  omega
theorem mul_bd {x y a b : Int} (h0 : 0 ≤ x) (h1 : x ≤ a) (h2 : 0 ≤ y) (h3 : y ≤ b) : 0 ≤ x * y ∧ x * y ≤ a * b :=
  ⟨Int.mul_nonneg h0 h2, Int.mul_le_mul h1 h3 h2 (by omega)⟩
theorem way_bd {d F s : Int} (h0 : 0 ≤ s) (h1 : s ≤ 15000) (h2 : 0 ≤ d) (h3 : d ≤ 100) (hF : 1 ≤ F) : 0 ≤ wayV d F s ∧ wayV d F s ≤ 230000000 := by
  have a := mul_bd h0 h1 h2 h3
  have b := mul_bd h0 h1 h0 h1
  have c := upV_bound (b := 10) a.1 (by omega)
  have e := upV_bound (b := 2 * F) b.1 (by omega)
  unfold wayV
  omega
theorem stop_1 {d f s g : Int} {down : Bool} (h : validBrake d f = false) : stopCode d f s g down = 1 ∧ stopWayV d f s g down = 0 ∧ stopTenthsV d f s g down = 0 := by
  have a : askV d f s g = 1 := by simp [askV, h]
  have c : stopCode d f s g down = 1 := by simp [stopCode, a]
  exact ⟨c, by simp [stopWayV, c], by simp [stopTenthsV, c]⟩
theorem stop_2 {d f s g : Int} {down : Bool} (h : validBrake d f = true) (h' : (inB s 0 15000 && inB g 0 900) = false) : stopCode d f s g down = 2 ∧ stopWayV d f s g down = 0 ∧ stopTenthsV d f s g down = 0 := by
  have a : askV d f s g = 2 := by simp [askV, h]; simp at h'; exact h'
  have c : stopCode d f s g down = 2 := by simp [stopCode, a]
  exact ⟨c, by simp [stopWayV, c], by simp [stopTenthsV, c]⟩
theorem stop_3 {d f s g : Int} {down : Bool} (h : validBrake d f = true) (h1 : inB s 0 15000 = true) (h2 : inB g 0 900 = true) (h3 : forceV f g down ≤ 0) : stopCode d f s g down = 3 ∧ stopWayV d f s g down = 0 ∧ stopTenthsV d f s g down = 0 := by
  have a : askV d f s g = 0 := by simp [askV, h, h1, h2]
  have c : stopCode d f s g down = 3 := by simp [stopCode, a, h3]
  exact ⟨c, by simp [stopWayV, c], by simp [stopTenthsV, c]⟩
theorem stop_0 {d f s g : Int} {down : Bool} (h : validBrake d f = true) (h1 : inB s 0 15000 = true) (h2 : inB g 0 900 = true) (h3 : ¬ forceV f g down ≤ 0) : stopCode d f s g down = 0 ∧ stopWayV d f s g down = wayV d (forceV f g down) s ∧ stopTenthsV d f s g down = d + upV (10 * s) (forceV f g down) := by
  have a : askV d f s g = 0 := by simp [askV, h, h1, h2]
  have c : stopCode d f s g down = 0 := by simp [stopCode, a, h3]
  exact ⟨c, by simp [stopWayV, c], by simp [stopTenthsV, c]⟩
end Go.Proofs.Ytjckgheidmfpnaa
