/-
  Plain definitions: workers. No program in sight.
-/
import Derived.Test.YtdilenfhnanepaaDoorPt
import Derived.Test.YtdilenfhnanepaaDoorPr
namespace Go.Proofs.YtdilenfhnanepaaDoor
open Go.RowKit
open Go.Op (bytesLess)
set_option linter.unusedVariables false
set_option linter.unusedSimpArgs false

theorem less_total : ∀ a b : List UInt8, (bytesLess a b || a == b) = !bytesLess b a
  | [], [] => by simp [bytesLess]
  | [], _ :: _ => by simp [bytesLess]
  | _ :: _, [] => by simp [bytesLess]
  | x :: r, y :: s => by
    have ih := less_total r s
    simp only [bytesLess]
    rcases Nat.lt_trichotomy x.toNat y.toNat with h | h | h
    · have h1 : x < y := by simpa [UInt8.lt_iff_toNat_lt] using h
      have h2 : ¬ y < x := by rw [UInt8.lt_iff_toNat_lt]; omega
      have h3 : ¬ x = y := fun e => by subst e; omega
      have h4 : ¬ y = x := fun e => h3 e.symm
      simp [h1, h2, h3, h4]
    · have h3 : x = y := UInt8.toNat_inj.1 h
      subst h3
      simpa using ih
    · have h1 : ¬ x < y := by rw [UInt8.lt_iff_toNat_lt]; omega
      have h2 : y < x := by simpa [UInt8.lt_iff_toNat_lt] using h
      have h3 : ¬ x = y := fun e => by subst e; omega
      have h4 : ¬ y = x := fun e => h3 e.symm
      simp [h1, h2, h3, h4]
def sLt (x y : ByteArray) : Bool := bytesLess x.toList y.toList
theorem sLe_not (x y : ByteArray) : (bytesLess x.toList y.toList || x.toList == y.toList) = !sLt y x := less_total _ _
def smallB (c : UInt8) : Bool := inB c.toNat 97 122
def digitB (c : UInt8) : Bool := inB c.toNat 48 57
/-- Byte i of s may stand there in a name. -/
def nameAt (s : ByteArray) (i : Nat) : Bool := smallB (s.get! i) || (decide (0 < i) && digitB (s.get! i))
def nameB (s : ByteArray) : Bool := decide (1 ≤ s.size ∧ s.size ≤ 10) && !any (fun i => !nameAt s i) s.size
def wkOk (I : Nat → ByteArray) (F U : Nat → Int) (k : Nat) : Bool := nameB (I k) && (inB (F k) 0 1440 && (inB (U k) 0 1440 && decide (F k < U k)))
/-- The first k workers are valid. -/
def goodW (I : Nat → ByteArray) (F U : Nat → Int) : Nat → Bool
  | 0 => true
  | k + 1 => goodW I F U k && (wkOk I F U k && (k == 0 || sLt (I (k - 1)) (I k)))
def validW (I : Nat → ByteArray) (F U : Nat → Int) (n : Nat) : Bool := goodW I F U n && decide (n ≤ 12)
section
variable {I : Nat → ByteArray} {F U : Nat → Int}
theorem goodW_mono {k m : Nat} (h : goodW I F U m = true) (hk : k ≤ m) : goodW I F U k = true := by
  induction m with
  | zero => have : k = 0 := by omega
            subst this; exact h
  | succ m ih =>
    rcases Nat.lt_or_ge k (m + 1) with h1 | h1
    · unfold goodW at h
      rw [Bool.and_eq_true] at h
      exact ih h.1 (by omega)
    · have : k = m + 1 := by omega
      subst this; exact h
theorem goodW_no {k m : Nat} (h : goodW I F U (k + 1) = false) (hk : k < m) : goodW I F U m = false := by
  cases hn : goodW I F U m
  · rfl
  · rw [goodW_mono hn (show k + 1 ≤ m by omega)] at h; exact h
theorem goodW_step {k : Nat} (h : goodW I F U k = true) : goodW I F U (k + 1) = (wkOk I F U k && (k == 0 || sLt (I (k - 1)) (I k))) := by
  show (goodW I F U k && _) = _
  rw [h, Bool.true_and]
theorem goodW_at {k m : Nat} (h : goodW I F U m = true) (hk : k < m) : 0 ≤ F k ∧ F k < U k ∧ U k ≤ 1440 := by
  have h1 := goodW_mono h (show k + 1 ≤ m by omega)
  rw [goodW_step (goodW_mono h (show k ≤ m by omega))] at h1
  simp only [Bool.and_eq_true, wkOk, decide_eq_true_eq] at h1
  have h2 := inB_true.1 h1.1.2.1
  have h3 := inB_true.1 h1.1.2.2.1
  omega
end
def atL (F U : Nat → Int) (m : Int) (n : Nat) : List Int := accB (fun k => decide (F k ≤ m) && decide (m < U k)) (fun k => (k : Int)) n
theorem atL_len (F U : Nat → Int) (m : Int) (n : Nat) : (atL F U m n).length ≤ n := accB_len _ _ _
theorem atL_yes {F U : Nat → Int} {m : Int} {k : Nat} (h : F k ≤ m) (h' : m < U k) : atL F U m (k + 1) = atL F U m k ++ [(k : Int)] := accB_yes (by simp [h, h'])
theorem atL_no {F U : Nat → Int} {m : Int} {k : Nat} (h : ¬ (F k ≤ m ∧ m < U k)) : atL F U m (k + 1) = atL F U m k := accB_no (by
  rw [Bool.and_eq_false_iff, decide_eq_false_iff_not, decide_eq_false_iff_not]; omega)
theorem atL_mem {F U : Nat → Int} {m : Int} {n : Nat} {x : Int} (h : x ∈ atL F U m n) : 0 ≤ x ∧ x < n ∧ F x.toNat ≤ m ∧ m < U x.toNat := by
  induction n with
  | zero => simp [atL, accB] at h
  | succ n ih =>
    by_cases hc : F n ≤ m ∧ m < U n
    · rw [atL_yes hc.1 hc.2, List.mem_append, List.mem_singleton] at h
      rcases h with h | h
      · have := ih h; omega
      · subst h; simp; omega
    · rw [atL_no hc] at h
      have := ih h; omega
/-- The best of the first j of a list of workers; -1 if there is none. -/
def bestN (U : Nat → Int) (L : List Int) : Nat → Int
  | 0 => -1
  | j + 1 => if bestN U L j < 0 ∨ U (bestN U L j).toNat < U (L.getD j 0).toNat then L.getD j 0 else bestN U L j
theorem bestN_mem {U : Nat → Int} {L : List Int} (hL : ∀ x, x ∈ L → 0 ≤ x) {j : Nat} (h : j + 1 ≤ L.length) : bestN U L (j + 1) ∈ L := by
  induction j with
  | zero =>
    have e : bestN U L (0 + 1) = L.getD 0 0 := by unfold bestN; rw [if_pos (Or.inl (by unfold bestN; decide))]
    rw [e, List.getD_eq_getElem?_getD, List.getElem?_eq_getElem (by omega)]
    exact List.getElem_mem _
  | succ j ih =>
    unfold bestN
    split
    · rw [List.getD_eq_getElem?_getD, List.getElem?_eq_getElem (by omega)]
      exact List.getElem_mem _
    · exact ih (by omega)
/-- The workers that are taken from minute m on. -/
def few (F U : Nat → Int) (n : Nat) (t : Int) : Nat → Int → List Int → List Int × Int
  | 0, _, acc => (acc, 0)
  | f + 1, m, acc => if m < t then (if (atL F U m n).length = 0 then ([], 3) else
      few F U n t f (U (bestN U (atL F U m n) (atL F U m n).length).toNat) (acc ++ [bestN U (atL F U m n) (atL F U m n).length])) else (acc, 0)
theorem few_stop {F U : Nat → Int} {n f : Nat} {t m : Int} {acc : List Int} (h : ¬ m < t) : few F U n t f m acc = (acc, 0) := by
  cases f with
  | zero => rfl
  | succ f => unfold few; rw [if_neg h]
theorem few_none {F U : Nat → Int} {n f : Nat} {t m : Int} {acc : List Int} (h : m < t) (h2 : (atL F U m n).length = 0) : few F U n t (f + 1) m acc = ([], 3) := by
  conv => lhs; unfold few
  rw [if_pos h, if_pos h2]
theorem few_next {F U : Nat → Int} {n f : Nat} {t m : Int} {acc : List Int} (h : m < t) (h2 : ¬ (atL F U m n).length = 0) : few F U n t (f + 1) m acc = few F U n t f (U (bestN U (atL F U m n) (atL F U m n).length).toNat) (acc ++ [bestN U (atL F U m n) (atL F U m n).length]) := by
  conv => lhs; unfold few
  rw [if_pos h, if_neg h2]
/-- The bytes of the first n names; with n itself. -/
def sumW (I : Nat → ByteArray) : Nat → Nat
  | 0 => 0
  | k + 1 => sumW I k + (I k).size
def szW (I : Nat → ByteArray) (n : Nat) : Nat := n + sumW I n
theorem sumW_mono {I : Nat → ByteArray} {k m : Nat} (h : k ≤ m) : sumW I k ≤ sumW I m := by
  induction m with
  | zero => have : k = 0 := by omega
            subst this; exact Nat.le_refl _
  | succ m ih =>
    rcases Nat.lt_or_ge k (m + 1) with h1 | h1
    · exact Nat.le_trans (ih (by omega)) (Nat.le_add_right _ _)
    · have : k = m + 1 := by omega
      subst this; exact Nat.le_refl _
theorem szW_n {I : Nat → ByteArray} {n : Nat} (h : szW I n ≤ 1048576) : n ≤ 1048576 := by unfold szW at h; omega
theorem szW_at {I : Nat → ByteArray} {n k : Nat} (h : szW I n ≤ 1048576) (hk : k < n) : (I k).size ≤ 1048576 := by
  have h1 := sumW_mono (I := I) (show k + 1 ≤ n by omega)
  have h2 : sumW I (k + 1) = sumW I k + (I k).size := rfl
  unfold szW at h; omega
/-- The first error of workers and something about numbers. -/
def staffC (v fine : Bool) : Int := if v = true then (if fine = true then 0 else 2) else 1
end Go.Proofs.YtdilenfhnanepaaDoor
