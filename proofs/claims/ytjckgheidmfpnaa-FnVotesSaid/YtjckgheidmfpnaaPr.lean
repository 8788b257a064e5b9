/-
  Rows of structs, cell by cell. No program in sight but the model's memory.
-/
import Derived.Test.YtjckgheidmfpnaaPk
namespace Go.Proofs.Ytjckgheidmfpnaa
open Go.RowKit
set_option linter.unusedVariables false
set_option linter.unusedSimpArgs false

/-- Passings: switch and second. -/
def psV (S T : Nat → Int) (q : Nat) : Value := .int .i64 (if q % 2 = 0 then S (q / 2) else T (q / 2))
theorem psV_0 (S T : Nat → Int) (k : Nat) : psV S T (k * 2) = .int .i64 (S k) := by unfold psV; rw [if_pos (by omega)]; congr 2; omega
theorem psV_1 (S T : Nat → Int) (k : Nat) : psV S T (k * 2 + 1) = .int .i64 (T k) := by unfold psV; rw [if_neg (by omega)]; congr 2; omega
/-- The slice value reads as the passings (S k, T k). -/
def PassAt (w : World) (a : Option Addr) (n : Nat) (S T : Nat → Int) : Prop :=
  0 < n → ∃ b o, a = some ⟨b, o, none⟩ ∧ b < w.heap.size ∧ ∀ k, k < n → w.cell? ⟨b, o + k * 2, none⟩ = some (.int .i64 (S k)) ∧ w.cell? ⟨b, o + k * 2 + 1, none⟩ = some (.int .i64 (T k))
theorem CellsIn.pass {lo hi n : Nat} {w : World} {a : Option Addr} {S T : Nat → Int} (h : CellsIn lo hi w a (2 * n) (psV S T)) : PassAt w a n S T := fun hn => by
  obtain ⟨b, o, rfl, _, _, hb, hc⟩ := h (by omega)
  refine ⟨b, o, rfl, hb, fun k hk => ⟨?_, ?_⟩⟩
  · rw [hc (k * 2) (by omega), psV_0]
  · rw [Nat.add_assoc, hc (k * 2 + 1) (by omega), psV_1]
theorem PassAt.below {w w' : World} {a : Option Addr} {n : Nat} {S T : Nat → Int} (h : PassAt w a n S T) (hb : Below w.heap.size w w') : PassAt w' a n S T := fun hn => by
  obtain ⟨b, o, rfl, hlt, hc⟩ := h hn
  exact ⟨b, o, rfl, Nat.lt_of_lt_of_le hlt hb.size, fun k hk => ⟨(hb.cell (p := ⟨b, o + k * 2, none⟩) hlt).trans (hc k hk).1, (hb.cell (p := ⟨b, o + k * 2 + 1, none⟩) hlt).trans (hc k hk).2⟩⟩
/-- Doors: place, ticks, tries. -/
def drV (P K R : Nat → Int) (q : Nat) : Value := .int .i64 (if q % 3 = 0 then P (q / 3) else if q % 3 = 1 then K (q / 3) else R (q / 3))
theorem drV_0 (P K R : Nat → Int) (k : Nat) : drV P K R (k * 3) = .int .i64 (P k) := by unfold drV; rw [if_pos (by omega)]; congr 2; omega
theorem drV_1 (P K R : Nat → Int) (k : Nat) : drV P K R (k * 3 + 1) = .int .i64 (K k) := by unfold drV; rw [if_neg (by omega), if_pos (by omega)]; congr 2; omega
theorem drV_2 (P K R : Nat → Int) (k : Nat) : drV P K R (k * 3 + 2) = .int .i64 (R k) := by unfold drV; rw [if_neg (by omega), if_neg (by omega)]; congr 2; omega
def DoorsAt (w : World) (a : Option Addr) (n : Nat) (P K R : Nat → Int) : Prop :=
  0 < n → ∃ b o, a = some ⟨b, o, none⟩ ∧ b < w.heap.size ∧ ∀ k, k < n → w.cell? ⟨b, o + k * 3, none⟩ = some (.int .i64 (P k)) ∧ w.cell? ⟨b, o + k * 3 + 1, none⟩ = some (.int .i64 (K k)) ∧ w.cell? ⟨b, o + k * 3 + 2, none⟩ = some (.int .i64 (R k))
theorem CellsIn.doors {lo hi n : Nat} {w : World} {a : Option Addr} {P K R : Nat → Int} (h : CellsIn lo hi w a (3 * n) (drV P K R)) : DoorsAt w a n P K R := fun hn => by
  obtain ⟨b, o, rfl, _, _, hb, hc⟩ := h (by omega)
  refine ⟨b, o, rfl, hb, fun k hk => ⟨?_, ?_, ?_⟩⟩
  · rw [hc (k * 3) (by omega), drV_0]
  · rw [Nat.add_assoc, hc (k * 3 + 1) (by omega), drV_1]
  · rw [Nat.add_assoc, hc (k * 3 + 2) (by omega), drV_2]
theorem DoorsAt.below {w w' : World} {a : Option Addr} {n : Nat} {P K R : Nat → Int} (h : DoorsAt w a n P K R) (hb : Below w.heap.size w w') : DoorsAt w' a n P K R := fun hn => by
  obtain ⟨b, o, rfl, hlt, hc⟩ := h hn
  exact ⟨b, o, rfl, Nat.lt_of_lt_of_le hlt hb.size, fun k hk => ⟨(hb.cell (p := ⟨b, o + k * 3, none⟩) hlt).trans (hc k hk).1, (hb.cell (p := ⟨b, o + k * 3 + 1, none⟩) hlt).trans (hc k hk).2.1, (hb.cell (p := ⟨b, o + k * 3 + 2, none⟩) hlt).trans (hc k hk).2.2⟩⟩
/-- Workers: id, from, until. -/
def wkV (I : Nat → ByteArray) (F U : Nat → Int) (q : Nat) : Value := if q % 3 = 0 then .string (I (q / 3)) else if q % 3 = 1 then .int .i64 (F (q / 3)) else .int .i64 (U (q / 3))
theorem wkV_0 (I : Nat → ByteArray) (F U : Nat → Int) (k : Nat) : wkV I F U (k * 3) = .string (I k) := by unfold wkV; rw [if_pos (by omega)]; congr 2; omega
theorem wkV_1 (I : Nat → ByteArray) (F U : Nat → Int) (k : Nat) : wkV I F U (k * 3 + 1) = .int .i64 (F k) := by unfold wkV; rw [if_neg (by omega), if_pos (by omega)]; congr 2; omega
theorem wkV_2 (I : Nat → ByteArray) (F U : Nat → Int) (k : Nat) : wkV I F U (k * 3 + 2) = .int .i64 (U k) := by unfold wkV; rw [if_neg (by omega), if_neg (by omega)]; congr 2; omega
def WorkAt (w : World) (a : Option Addr) (n : Nat) (I : Nat → ByteArray) (F U : Nat → Int) : Prop :=
  0 < n → ∃ b o, a = some ⟨b, o, none⟩ ∧ b < w.heap.size ∧ ∀ k, k < n → w.cell? ⟨b, o + k * 3, none⟩ = some (.string (I k)) ∧ w.cell? ⟨b, o + k * 3 + 1, none⟩ = some (.int .i64 (F k)) ∧ w.cell? ⟨b, o + k * 3 + 2, none⟩ = some (.int .i64 (U k))
theorem CellsIn.workers {lo hi n : Nat} {w : World} {a : Option Addr} {I : Nat → ByteArray} {F U : Nat → Int} (h : CellsIn lo hi w a (3 * n) (wkV I F U)) : WorkAt w a n I F U := fun hn => by
  obtain ⟨b, o, rfl, _, _, hb, hc⟩ := h (by omega)
  refine ⟨b, o, rfl, hb, fun k hk => ⟨?_, ?_, ?_⟩⟩
  · rw [hc (k * 3) (by omega), wkV_0]
  · rw [Nat.add_assoc, hc (k * 3 + 1) (by omega), wkV_1]
  · rw [Nat.add_assoc, hc (k * 3 + 2) (by omega), wkV_2]
theorem WorkAt.below {w w' : World} {a : Option Addr} {n : Nat} {I : Nat → ByteArray} {F U : Nat → Int} (h : WorkAt w a n I F U) (hb : Below w.heap.size w w') : WorkAt w' a n I F U := fun hn => by
  obtain ⟨b, o, rfl, hlt, hc⟩ := h hn
  exact ⟨b, o, rfl, Nat.lt_of_lt_of_le hlt hb.size, fun k hk => ⟨(hb.cell (p := ⟨b, o + k * 3, none⟩) hlt).trans (hc k hk).1, (hb.cell (p := ⟨b, o + k * 3 + 1, none⟩) hlt).trans (hc k hk).2.1, (hb.cell (p := ⟨b, o + k * 3 + 2, none⟩) hlt).trans (hc k hk).2.2⟩⟩
end Go.Proofs.Ytjckgheidmfpnaa
