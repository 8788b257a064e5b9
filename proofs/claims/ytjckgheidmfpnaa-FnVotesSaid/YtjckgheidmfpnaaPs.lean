/-
  Slices of numbers as the walk sees them: a length and a function; plain functions over them. No program in sight.
-/
import Derived.Test.YtjckgheidmfpnaaQt
import Derived.Test.YtjckgheidmfpnaaPl
import Derived.LoopTactic
import Derived.Laws.Rows
import Derived.Deep.OwnRows
import Derived.Laws.OwnMore
namespace Go.Proofs.Ytjckgheidmfpnaa
open Go.RowKit
set_option linter.unusedVariables false
set_option linter.unusedSimpArgs false

/-- The slice value '.slice a n c' holds the numbers Z 0 .. Z (n - 1). -/
def IntsAt (w : World) (a : Option Addr) (n : Nat) (Z : Nat → Int) : Prop :=
  0 < n → ∃ b o, a = some ⟨b, o, none⟩ ∧ b < w.heap.size ∧ ∀ j, j < n → w.cell? ⟨b, o + j, none⟩ = some (.int .i64 (Z j))
theorem IntsAt.below {w w' : World} {a : Option Addr} {n : Nat} {Z : Nat → Int} (h : IntsAt w a n Z) (hb : Below w.heap.size w w') : IntsAt w' a n Z := fun hn => by
  obtain ⟨b, o, rfl, hlt, hc⟩ := h hn
  exact ⟨b, o, rfl, Nat.lt_of_lt_of_le hlt hb.size, fun j hj => (hb.cell (p := ⟨b, o + j, none⟩) hlt).trans (hc j hj)⟩
theorem IntsAt.cong {w : World} {a : Option Addr} {n : Nat} {Z Z' : Nat → Int} (h : IntsAt w a n Z) (hz : ∀ j, j < n → Z j = Z' j) : IntsAt w a n Z' := fun hn => by
  obtain ⟨b, o, rfl, hlt, hc⟩ := h hn
  exact ⟨b, o, rfl, hlt, fun j hj => by rw [← hz j hj]; exact hc j hj⟩

/-- Block g of w is a row of the n numbers Z 0 .. Z (n - 1), none frozen. -/
def RowAt (w : World) (g n : Nat) (t : TypeId) (Z : Nat → Int) : Prop := w.heap[g]? = some (.cells ⟨(List.range n).map fun j => Value.int .i64 (Z j)⟩ t (0, 0))
theorem RowAt.lt {w : World} {g n : Nat} {t : TypeId} {Z : Nat → Int} (h : RowAt w g n t Z) : g < w.heap.size := by
  rcases Nat.lt_or_ge g w.heap.size with h1 | h1
  · exact h1
  · unfold RowAt at h; rw [Array.getElem?_eq_none h1] at h; cases h
theorem RowAt.below {w w' : World} {g n : Nat} {t : TypeId} {Z : Nat → Int} (h : RowAt w g n t Z) (hb : Below w.heap.size w w') : RowAt w' g n t Z := (hb.block g h.lt).trans h
theorem RowAt.cell {w : World} {g n : Nat} {t : TypeId} {Z : Nat → Int} (h : RowAt w g n t Z) {j : Nat} (hj : j < n) : w.cell? ⟨g, j, none⟩ = some (.int .i64 (Z j)) := by
  have := cell_of_row w g j _ t (0, 0) h
  rw [this]
  simp [hj]
theorem RowAt.ints {w : World} {g n : Nat} {t : TypeId} {Z : Nat → Int} (h : RowAt w g n t Z) : IntsAt w (some ⟨g, 0, none⟩) n Z :=
  fun _ => ⟨g, 0, rfl, h.lt, fun j hj => by rw [Nat.zero_add]; exact h.cell hj⟩
/-- What a row of zeros becomes, number by number. -/
def partly (Z : Nat → Int) (k n : Nat) : List Value := (List.range n).map fun j => Value.int .i64 (if j < k then Z j else 0)
theorem partly_len (Z : Nat → Int) (k n : Nat) : (partly Z k n).length = n := by simp [partly]
theorem partly_zero (Z : Nat → Int) (n : Nat) : partly Z 0 n = List.replicate n (.int .i64 0) := by
  unfold partly
  apply List.ext_getElem
  · simp
  · intro i h1 h2; simp
theorem made_zero (Z : Nat → Int) (n : Nat) : madeCells #[.int .i64 0] n = ⟨partly Z 0 n⟩ := by
  rw [partly_zero, ← toList_madeCells_one]
theorem partly_full (Z : Nat → Int) (n : Nat) : partly Z n n = (List.range n).map fun j => Value.int .i64 (Z j) := by
  unfold partly
  apply List.map_congr_left
  intro j hj
  rw [if_pos (List.mem_range.1 hj)]
theorem partly_set (Z : Nat → Int) {k n : Nat} (hk : k < n) : (partly Z k n).set k (.int .i64 (Z k)) = partly Z (k + 1) n := by
  unfold partly
  apply List.ext_getElem
  · simp
  · intro i h1 h2
    simp only [List.getElem_set, List.getElem_map, List.getElem_range]
    by_cases h : k = i
    · subst h; simp
    · rw [if_neg h]
      by_cases h3 : i < k
      · rw [if_pos h3, if_pos (by omega)]
      · rw [if_neg h3, if_neg (by omega)]

/-- The first index below n at which q holds, or n. -/
def fst (q : Nat → Bool) : Nat → Nat
  | 0 => 0
  | k + 1 => if fst q k < k then fst q k else if q k = true then k else k + 1
theorem fst_le (q : Nat → Bool) (n : Nat) : fst q n ≤ n := by
  induction n with
  | zero => exact Nat.le_refl _
  | succ n ih => unfold fst; split <;> first | omega | (split <;> omega)
theorem fst_stay {q : Nat → Bool} {k : Nat} (h : fst q k < k) : ∀ n, k ≤ n → fst q n = fst q k := by
  intro n hn
  induction n with
  | zero => have : k = 0 := by omega
            subst this; rfl
  | succ n ih =>
    rcases Nat.lt_or_ge k (n + 1) with h1 | h1
    · have e := ih (by omega)
      show (if fst q n < n then fst q n else _) = _
      rw [if_pos (by rw [e]; omega), e]
    · have : k = n + 1 := by omega
      subst this; rfl
theorem fst_hit {q : Nat → Bool} {k n : Nat} (h : fst q k = k) (hq : q k = true) (hk : k < n) : fst q n = k := by
  have e : fst q (k + 1) = k := by
    show (if fst q k < k then _ else _) = _
    rw [if_neg (by omega), if_pos hq]
  rw [fst_stay (k := k + 1) (by omega) n (by omega), e]
theorem fst_miss {q : Nat → Bool} {k : Nat} (h : fst q k = k) (hq : q k = false) : fst q (k + 1) = k + 1 := by
  show (if fst q k < k then _ else _) = _
  rw [if_neg (by omega), if_neg (by rw [hq]; decide)]
def idx (q : Nat → Bool) (n : Nat) : Int := if fst q n < n then fst q n else -1
def any (q : Nat → Bool) (n : Nat) : Bool := decide (fst q n < n)
theorem idx_ge (q : Nat → Bool) (n : Nat) : decide (0 ≤ idx q n) = any q n := by
  unfold idx any; split <;> simp [*]
theorem any_true {q : Nat → Bool} {n : Nat} : any q n = true ↔ ∃ j, j < n ∧ q j = true := by
  unfold any
  rw [decide_eq_true_eq]
  induction n with
  | zero => exact ⟨fun h => absurd h (by unfold fst; omega), fun ⟨j, hj, _⟩ => absurd hj (by omega)⟩
  | succ n ih =>
    have hl := fst_le q n
    constructor
    · intro h
      by_cases h1 : fst q n < n
      · obtain ⟨j, hj, hq⟩ := ih.1 h1
        exact ⟨j, by omega, hq⟩
      · have e : fst q n = n := by omega
        cases hq : q n
        · rw [fst_miss e hq] at h; omega
        · exact ⟨n, by omega, hq⟩
    · rintro ⟨j, hj, hq⟩
      by_cases h1 : fst q n < n
      · rw [fst_stay h1 (n + 1) (by omega)]; omega
      · have e : fst q n = n := by omega
        have : j = n := by
          rcases Nat.lt_or_ge j n with h2 | h2
          · exact absurd (ih.2 ⟨j, h2, hq⟩) h1
          · omega
        subst this
        rw [fst_hit e hq (Nat.lt_succ_self _)]; omega
theorem any_false {q : Nat → Bool} {n : Nat} : any q n = false ↔ ∀ j, j < n → q j = false := by
  constructor
  · intro h j hj
    cases hq : q j
    · rfl
    · rw [any_true.2 ⟨j, hj, hq⟩] at h; exact h
  · intro h
    cases ha : any q n
    · rfl
    · obtain ⟨j, hj, hq⟩ := any_true.1 ha
      rw [h j hj] at hq; cases hq

def rises (Z : Nat → Int) (lo hi : Int) : Nat → Bool
  | 0 => true
  | k + 1 => rises Z lo hi k && (inB (Z k) lo hi && (k == 0 || decide (Z (k - 1) < Z k)))
theorem rises_mono {Z : Nat → Int} {lo hi : Int} {k n : Nat} (h : rises Z lo hi n = true) (hk : k ≤ n) : rises Z lo hi k = true := by
  induction n with
  | zero => have : k = 0 := by omega
            subst this; exact h
  | succ n ih =>
    rcases Nat.lt_or_ge k (n + 1) with h1 | h1
    · unfold rises at h
      rw [Bool.and_eq_true] at h
      exact ih h.1 (by omega)
    · have : k = n + 1 := by omega
      subst this; exact h
theorem rises_no {Z : Nat → Int} {lo hi : Int} {k n : Nat} (h : rises Z lo hi (k + 1) = false) (hk : k < n) : rises Z lo hi n = false := by
  cases hn : rises Z lo hi n
  · rfl
  · rw [rises_mono hn (show k + 1 ≤ n by omega)] at h; exact h
theorem rises_step {Z : Nat → Int} {lo hi : Int} {k : Nat} (h : rises Z lo hi k = true) : rises Z lo hi (k + 1) = (inB (Z k) lo hi && (k == 0 || decide (Z (k - 1) < Z k))) := by
  show (rises Z lo hi k && _) = _
  rw [h, Bool.true_and]
end Go.Proofs.Ytjckgheidmfpnaa
