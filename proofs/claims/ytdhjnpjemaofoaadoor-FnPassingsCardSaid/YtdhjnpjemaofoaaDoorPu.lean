/-
  Plain definitions: where a car is at a second. No program in sight.
-/
import Derived.Test.YtdhjnpjemaofoaaDoorM1
namespace Go.Proofs.YtdhjnpjemaofoaaDoor
open Go.RowKit
set_option linter.unusedVariables false
set_option linter.unusedSimpArgs false

def lineV (x0 y0 x1 y1 x : Int) : Int := if x ≤ x0 ∨ x1 ≤ x0 then y0 else if x1 ≤ x then y1 else y0 + nearV ((y1 - y0) * (x - x0)) (x1 - x0)
theorem mul_abs {a b A B : Int} (h1 : -A ≤ a) (h2 : a ≤ A) (h3 : 0 ≤ b) (h4 : b ≤ B) (hA : 0 ≤ A) : -(A * B) ≤ a * b ∧ a * b ≤ A * B := by
  have e1 : A * b ≤ A * B := Int.mul_le_mul_of_nonneg_left h4 hA
  have e2 : a * b ≤ A * b := Int.mul_le_mul_of_nonneg_right h2 h3
  have e3 : (-A) * b ≤ a * b := Int.mul_le_mul_of_nonneg_right h1 h3
  rw [Int.neg_mul] at e3
  omega
def atQ (T : Nat → Int) (t : Int) (k : Nat) : Bool := decide (t ≤ T k)
def pl (Z S : Nat → Int) (k : Nat) : Int := Z (S k).toNat
def placeV (Z S T : Nat → Int) (m : Nat) (t : Int) : Int :=
  if fst (atQ T t) m < m then lineV (T (fst (atQ T t) m - 1)) (pl Z S (fst (atQ T t) m - 1)) (T (fst (atQ T t) m)) (pl Z S (fst (atQ T t) m)) t else pl Z S (m - 1)
theorem place_hit {Z S T : Nat → Int} {m k : Nat} {t : Int} (h : fst (atQ T t) k = k) (hq : t ≤ T k) (hk : k < m) : placeV Z S T m t = lineV (T (k - 1)) (pl Z S (k - 1)) (T k) (pl Z S k) t := by
  unfold placeV; rw [fst_hit h (decide_eq_true hq) hk, if_pos hk]
theorem place_end {Z S T : Nat → Int} {m : Nat} {t : Int} (h : fst (atQ T t) m = m) : placeV Z S T m t = pl Z S (m - 1) := by
  unfold placeV; rw [if_neg (by omega)]
theorem place_first {Z S T : Nat → Int} {m : Nat} {t : Int} (hq : t ≤ T 0) (hk : 0 < m) : placeV Z S T m t = pl Z S 0 := by
  rw [place_hit (k := 0) rfl hq hk]; unfold lineV; rw [if_pos (.inl hq)]
def placeC (Z : Nat → Int) (n : Nat) (S T : Nat → Int) (m : Nat) (t : Int) : Int := if passOk Z n S T m = true then (if inB t 0 1000000 = true then (if m = 0 then 3 else 0) else 2) else 1
def placeR (Z : Nat → Int) (n : Nat) (S T : Nat → Int) (m : Nat) (t : Int) : Int := if placeC Z n S T m t = 0 then placeV Z S T m t else 0
theorem place_1 {Z S T : Nat → Int} {n m : Nat} {t : Int} (h : passOk Z n S T m = false) : placeC Z n S T m t = 1 ∧ placeR Z n S T m t = 0 := by
  have e : placeC Z n S T m t = 1 := by unfold placeC; rw [h, if_neg (by decide)]
  exact ⟨e, by unfold placeR; rw [e, if_neg (by decide)]⟩
theorem place_2 {Z S T : Nat → Int} {n m : Nat} {t : Int} (h : passOk Z n S T m = true) (h2 : inB t 0 1000000 = false) : placeC Z n S T m t = 2 ∧ placeR Z n S T m t = 0 := by
  have e : placeC Z n S T m t = 2 := by unfold placeC; rw [h, if_pos rfl, h2, if_neg (by decide)]
  exact ⟨e, by unfold placeR; rw [e, if_neg (by decide)]⟩
theorem place_3 {Z S T : Nat → Int} {n m : Nat} {t : Int} (h : passOk Z n S T m = true) (h2 : inB t 0 1000000 = true) (h3 : m = 0) : placeC Z n S T m t = 3 ∧ placeR Z n S T m t = 0 := by
  have e : placeC Z n S T m t = 3 := by unfold placeC; rw [h, if_pos rfl, h2, if_pos rfl, if_pos h3]
  exact ⟨e, by unfold placeR; rw [e, if_neg (by decide)]⟩
theorem place_0 {Z S T : Nat → Int} {n m : Nat} {t : Int} (h : passOk Z n S T m = true) (h2 : inB t 0 1000000 = true) (h3 : m ≠ 0) : placeC Z n S T m t = 0 ∧ placeR Z n S T m t = placeV Z S T m t := by
  have e : placeC Z n S T m t = 0 := by unfold placeC; rw [h, if_pos rfl, h2, if_pos rfl, if_neg h3]
  exact ⟨e, by unfold placeR; rw [e, if_pos rfl]⟩
end Go.Proofs.YtdhjnpjemaofoaaDoor
