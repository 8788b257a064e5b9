/-
  Contracts: lists of states: where a state lies, the first one that is not safe.
-/
import Derived.Test.YtccejaneammplaaKB
import Derived.Test.YtccejaneammplaaKN
import Derived.Test.YtccejaneammplaaKM
import Derived.Test.YtccejaneammplaaPbf
import Derived.Test.YtccejaneammplaaAn
import Derived.Test.YtccejaneammplaaQu
import Derived.Deep.DeepCutAuto
import Derived.Lib.Hide
import Derived.Laws.StructEq
namespace Go.Proofs.Ytccejaneammplaa
open Go.RowKit
set_option linter.unusedVariables false
set_option linter.unusedSimpArgs false

/-- The slice's cells hold the states L, from the head of their block on. -/
def StsAt (w : World) (a : Option Addr) (L : List St) : Prop :=
  0 < L.length → ∃ b, a = some ⟨b, 0, none⟩ ∧ b < w.heap.size ∧ ∀ k y, L[k]? = some y → w.cell? ⟨b, k * 5, none⟩ = some (.int .i64 y.m) ∧ w.cell? ⟨b, k * 5 + 1, none⟩ = some (.bool y.o) ∧ w.cell? ⟨b, k * 5 + 2, none⟩ = some (.bool y.a) ∧ w.cell? ⟨b, k * 5 + 3, none⟩ = some (.bool y.b) ∧ w.cell? ⟨b, k * 5 + 4, none⟩ = some (.bool y.e)
theorem StsAt.below {w w' : World} {a : Option Addr} {L : List St} (h : StsAt w a L) (hb : Below w.heap.size w w') : StsAt w' a L := fun hn => by
  obtain ⟨b, rfl, hlt, hc⟩ := h hn
  exact ⟨b, rfl, Nat.lt_of_lt_of_le hlt hb.size, fun k y hy => ⟨(hb.cell (p := ⟨b, k * 5, none⟩) hlt).trans (hc k y hy).1, (hb.cell (p := ⟨b, k * 5 + 1, none⟩) hlt).trans (hc k y hy).2.1, (hb.cell (p := ⟨b, k * 5 + 2, none⟩) hlt).trans (hc k y hy).2.2.1, (hb.cell (p := ⟨b, k * 5 + 3, none⟩) hlt).trans (hc k y hy).2.2.2.1, (hb.cell (p := ⟨b, k * 5 + 4, none⟩) hlt).trans (hc k y hy).2.2.2.2⟩⟩
/-- The slice value v holds the states L in a row of the call's own, from block B on. -/
def StsOf (B : Nat) (w : World) (v : Value) (L : List St) : Prop := w.ownsRow B 25 5 v L.length (L.flatMap St.cellsL)
theorem StsOf.at {B : Nat} {w : World} {v : Value} {L : List St} (h : StsOf B w v L) : ∃ a c, v = .slice a L.length c ∧ StsAt w a L := by
  obtain ⟨a, c, rfl, ho⟩ := own_outN h
  refine ⟨a, c, rfl, fun hn => ?_⟩
  obtain ⟨g, rfl, _, _, hb, hc⟩ := ho (by omega)
  refine ⟨g, rfl, hb, fun k y hy => ?_⟩
  have hk : k < L.length := by
    rcases Nat.lt_or_ge k L.length with h1 | h1
    · exact h1
    · rw [List.getElem?_eq_none h1] at hy; cases hy
  have H : ∀ i, i < 5 → w.cell? ⟨g, k * 5 + i, none⟩ = some ((y.cellsL)[i]?.getD (.int .i64 0)) := fun i hi => by
    rw [(hc (k * 5 + i) (by omega)).1]
    show some ((L.flatMap St.cellsL).getD (k * 5 + i) (.int .i64 0)) = _
    rw [List.getD_eq_getElem?_getD, flat_get St.cellsL 5 (fun _ => rfl) L k i y hy hi]
  exact ⟨H 0 (by omega), H 1 (by omega), H 2 (by omega), H 3 (by omega), H 4 (by omega)⟩
theorem StsOf.below {B : Nat} {w w' : World} {v : Value} {L : List St} (h : StsOf B w v L) (hb : Below w.heap.size w w') : StsOf B w' v L :=
  World.ownsRow.kept (row := none) h ⟨hb.os, hb.tape, hb.output, hb.size, fun k hk _ => hb.block k hk⟩ (by cases hv : v.ownBlock <;> simp)
theorem St.eqB (x y : St) : (x == y) = ((x.m == y.m) && ((x.o == y.o) && ((x.a == y.a) && ((x.b == y.b) && (x.e == y.e))))) := by
  obtain ⟨m, o, a, b, e⟩ := x
  obtain ⟨m', o', a', b', e'⟩ := y
  by_cases h : (⟨m, o, a, b, e⟩ : St) = ⟨m', o', a', b', e'⟩
  · cases h; simp
  · rw [beq_eq_false_iff_ne.2 h]
    cases hh : ((m == m') && ((o == o') && ((a == a') && ((b == b') && (e == e')))))
    · rfl
    · simp only [Bool.and_eq_true, beq_iff_eq] at hh
      obtain ⟨rfl, rfl, rfl, rfl, rfl⟩ := hh
      exact absurd rfl h

theorem run_eq_State (x0 y0 : Int) (x1 x2 x3 x4 y1 y2 y3 y4 : Bool) (W : World) :
    (binOp .eql 25 (.agg #[.int .i64 y0, .bool y1, .bool y2, .bool y3, .bool y4]) (.agg #[.int .i64 x0, .bool x1, .bool x2, .bool x3, .bool x4])).run Try.prog W = .ok (.bool ((y0 == x0) && ((y1 == x1) && ((y2 == x2) && ((y3 == x3) && (y4 == x4)))))) W := by
  rw [run_eql_struct]
  generalize hd : 10000 = D
  obtain ⟨d, rfl⟩ : ∃ d, D = d + 1 + 1 := ⟨9998, by omega⟩
  rw [run_equalIn_agg (d := d + 1) (ht := by kernel_rfl) (hp := by kernel_rfl)]
  simp only [Program.fieldsOf, Try.underlying25]
  clear hd
  have u2 := Try.underlying2
  have u4 := Try.underlying4
  go_simp
  repeat' split
  all_goals simp [*]

end Go.Proofs.Ytccejaneammplaa
