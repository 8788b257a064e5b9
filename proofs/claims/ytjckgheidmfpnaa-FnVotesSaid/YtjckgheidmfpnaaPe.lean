/-
  Plain definitions: safe speeds and least forces of brakes. No program in sight.
-/
import Derived.Test.YtjckgheidmfpnaaPb
import Derived.Test.YtjckgheidmfpnaaPs
namespace Go.Proofs.Ytjckgheidmfpnaa
open Go.RowKit
set_option linter.unusedVariables false
set_option linter.unusedSimpArgs false

theorem fst_false {q : Nat → Bool} {j : Nat} : ∀ {n : Nat}, j < fst q n → q j = false := by
  intro n
  induction n with
  | zero => intro h; exact absurd h (by unfold fst; omega)
  | succ n ih =>
    intro h
    have hl := fst_le q n
    by_cases h1 : fst q n < n
    · have e : fst q (n + 1) = fst q n := by show (if fst q n < n then _ else _) = _; rw [if_pos h1]
      rw [e] at h; exact ih h
    · have e0 : fst q n = n := by omega
      by_cases h2 : j < n
      · exact ih (by omega)
      · cases hq : q n
        · have e : fst q (n + 1) = n + 1 := fst_miss e0 hq
          have : j = n := by omega
          rw [this]; exact hq
        · have e : fst q (n + 1) = n := fst_hit e0 hq (by omega)
          omega
theorem fst_true {q : Nat → Bool} : ∀ {n : Nat}, fst q n < n → q (fst q n) = true := by
  intro n
  induction n with
  | zero => intro h; omega
  | succ n ih =>
    intro h
    have hl := fst_le q n
    by_cases h1 : fst q n < n
    · have e : fst q (n + 1) = fst q n := by show (if fst q n < n then _ else _) = _; rw [if_pos h1]
      rw [e]; exact ih h1
    · have e0 : fst q n = n := by omega
      cases hq : q n
      · have e : fst q (n + 1) = n + 1 := fst_miss e0 hq
        omega
      · have e : fst q (n + 1) = n := fst_hit e0 hq (by omega)
        rw [e]; exact hq

/-- Whether a car stops within a way. -/
def withinV (d f s way g : Int) (down : Bool) : Bool := decide (0 < forceV f g down) && decide (wayV d (forceV f g down) s ≤ way)
def askWay (d f way g : Int) : Int := if validBrake d f = true then (if (inB way 0 3000000 && inB g 0 900) = true then 0 else 2) else 1
def safeCode (d f way g : Int) (down : Bool) : Int := if askWay d f way g = 0 then (if forceV f g down ≤ 0 then 3 else 0) else askWay d f way g
/-- The least speed that is not safe. -/
def unsafeV (d f way g : Int) (down : Bool) : Nat := fst (fun j => !withinV d f j way g down) 15001
def safeV (d f way g : Int) (down : Bool) : Int := if safeCode d f way g down = 0 then (unsafeV d f way g down : Int) - 1 else 0

theorem force_mono {f f' g : Int} {down : Bool} (h : f ≤ f') : forceV f g down ≤ forceV f' g down := by
  unfold forceV; split <;> omega
theorem within_speed {d f s s' way g : Int} {down : Bool} (hd : 0 ≤ d) (h0 : 0 ≤ s) (h : s ≤ s') (hw : withinV d f s' way g down = true) : withinV d f s way g down = true := by
  unfold withinV at *
  rw [Bool.and_eq_true, decide_eq_true_eq, decide_eq_true_eq] at *
  refine ⟨hw.1, Int.le_trans ?_ hw.2⟩
  unfold wayV
  have a := upV_mono (a := s * d) (a' := s' * d) (b := 10) (Int.mul_le_mul_of_nonneg_right h hd) (by omega)
  have b := upV_mono (a := s * s) (a' := s' * s') (b := 2 * forceV f g down) (Int.mul_le_mul h h h0 (by omega)) (by omega)
  omega
theorem within_force {d f f' s way g : Int} {down : Bool} (h0 : 0 ≤ s) (h : f ≤ f') (hw : withinV d f s way g down = true) : withinV d f' s way g down = true := by
  have hm := force_mono (g := g) (down := down) h
  unfold withinV at *
  rw [Bool.and_eq_true, decide_eq_true_eq, decide_eq_true_eq] at *
  refine ⟨by omega, Int.le_trans ?_ hw.2⟩
  unfold wayV
  have b := upV_anti (a := s * s) (b := 2 * forceV f g down) (b' := 2 * forceV f' g down) (Int.mul_nonneg h0 h0) (by omega) (by omega)
  omega
theorem within_zero {d f way g : Int} {down : Bool} (h : 0 < forceV f g down) (hw : 0 ≤ way) : withinV d f 0 way g down = true := by
  unfold withinV
  rw [Bool.and_eq_true, decide_eq_true_eq, decide_eq_true_eq]
  refine ⟨h, ?_⟩
  unfold wayV upV
  rw [Int.zero_mul, Int.zero_mul]
  have e1 : (0 + 10 - 1 : Int) / 10 = 0 := by decide
  have e2 : (0 + 2 * forceV f g down - 1) / (2 * forceV f g down) = 0 := Int.ediv_eq_zero_of_lt (by omega) (by omega)
  rw [e1, e2]; omega
theorem unsafe_le (d f way g : Int) (down : Bool) : unsafeV d f way g down ≤ 15001 := fst_le _ _
theorem unsafe_pos {d f way g : Int} {down : Bool} (h : 0 < forceV f g down) (hw : 0 ≤ way) : 0 < unsafeV d f way g down := by
  refine Nat.pos_of_ne_zero fun e => ?_
  have ht := fst_true (q := fun j : Nat => !withinV d f j way g down) (n := 15001) (by unfold unsafeV at e; omega)
  unfold unsafeV at e
  rw [e] at ht
  have hz := within_zero (d := d) h hw
  simp at ht
  rw [ht] at hz; exact absurd hz (by decide)
theorem unsafe_lt {d f way g : Int} {down : Bool} {m : Int} (h0 : 0 ≤ m) (h : m < unsafeV d f way g down) : withinV d f m way g down = true := by
  have := fst_false (q := fun j : Nat => !withinV d f j way g down) (j := m.toNat) (n := 15001) (by unfold unsafeV at h; omega)
  simp at this
  rwa [show max m 0 = m by omega] at this
theorem unsafe_ge {d f way g : Int} {down : Bool} {m : Int} (hd : 0 ≤ d) (h : unsafeV d f way g down ≤ m) (hm : m ≤ 15000) : withinV d f m way g down = false := by
  have ht := fst_true (q := fun j : Nat => !withinV d f j way g down) (n := 15001) (by unfold unsafeV at h; omega)
  simp at ht
  cases hw : withinV d f m way g down
  · rfl
  · have := within_speed (s := (fst (fun j : Nat => !withinV d f j way g down) 15001 : Int)) hd (by omega) (by unfold unsafeV at h; omega) hw
    rw [ht] at this; exact absurd this (by decide)

def askLeast (d f s way g : Int) : Int := if validBrake d f = true then (if (inB s 0 15000 && inB way 0 3000000 && inB g 0 900) = true then 0 else 2) else 1
/-- One less than the least force. -/
def leastN (d s way g : Int) (down : Bool) : Nat := fst (fun j => withinV d (j + 1) s way g down) 10000
def leastCode (d f s way g : Int) (down : Bool) : Int := if askLeast d f s way g = 0 then (if leastN d s way g down < 10000 then 0 else 3) else askLeast d f s way g
def leastV (d f s way g : Int) (down : Bool) : Int := if leastCode d f s way g down = 0 then (leastN d s way g down : Int) + 1 else 0
theorem least_le (d s way g : Int) (down : Bool) : leastN d s way g down ≤ 10000 := fst_le _ _
theorem least_lt {d s way g : Int} {down : Bool} {m : Int} (h0 : 1 ≤ m) (h : m ≤ leastN d s way g down) : withinV d m s way g down = false := by
  have := fst_false (q := fun j : Nat => withinV d (j + 1) s way g down) (j := (m - 1).toNat) (n := 10000) (by unfold leastN at h; omega)
  rwa [Int.toNat_of_nonneg (by omega), show m - 1 + 1 = m by omega] at this
theorem least_ge {d s way g : Int} {down : Bool} {m : Int} (hs : 0 ≤ s) (h : leastN d s way g down < m) (hm : m ≤ 10000) : withinV d m s way g down = true := by
  have ht := fst_true (q := fun j : Nat => withinV d (j + 1) s way g down) (n := 10000) (by unfold leastN at h; omega)
  exact within_force (f := ((fst (fun j : Nat => withinV d (j + 1) s way g down) 10000 : Nat) : Int) + 1) hs (by unfold leastN at h; omega) ht
attribute [irreducible] unsafeV leastN
end Go.Proofs.Ytjckgheidmfpnaa
