/-
  Contract: a number in decimal, in the reference.
-/
import Derived.Test.YtejhngkbkcalaaaGreatDoorM1
import Derived.Test.YtejhngkbkcalaaaGreatDoorAn
import Derived.Deep.DeepCutAuto
import Derived.Lib.Hide
import Derived.Lib.ItoaNum
import Derived.Lib.ItoaLen
import Derived.Laws.Concat
import Derived.Lib.UnsafeStr
import Derived.Laws.IdiomStrings
namespace Go.Proofs.YtejhngkbkcalaaaGreatDoor
open Go.RowKit
open Go.Lib (byteCells itoa decDigits)
set_option linter.unusedVariables false
set_option linter.unusedSimpArgs false

def dd (m : Nat) : List UInt8 := if m = 0 then [] else decDigits m
theorem dd_step {m : Nat} (h : 0 < m) : dd m = dd (m / 10) ++ [UInt8.ofNat (48 + m % 10)] := by
  unfold dd
  rw [if_neg (by omega)]
  by_cases h1 : m < 10
  · rw [decDigits, dif_pos h1, if_pos (by omega), show m % 10 = m by omega]; rfl
  · rw [decDigits, dif_neg h1, if_neg (by omega)]
/-- The slice value v holds the bytes L in a row of the call's own, from block B on. -/
def BysOf (B : Nat) (w : World) (v : Value) (L : List UInt8) : Prop := w.ownsRow B 5 1 v L.length (byteCells L)
theorem uint8_info : (Tryz.prog.info? 5).map (fun i => (i.zero, i.size, i.bytes)) = some (some (.int .u8 0), 1, 1) := by kernel_rfl
theorem BysOf.snoc {B : Nat} {w : World} {v : Value} {L : List UInt8} {c : UInt8} (h : w.ownsRow B 5 1 v (L.length + 1) (byteCells L ++ [.int .u8 c.toNat])) : BysOf B w v (L ++ [c]) := by
  unfold BysOf
  rw [List.length_append, Go.Lib.byteCells_append]
  exact h
theorem BysOf.below {B : Nat} {w w' : World} {v : Value} {L : List UInt8} (h : BysOf B w v L) (hb : Below w.heap.size w w') : BysOf B w' v L :=
  World.ownsRow.kept (row := none) h ⟨hb.os, hb.tape, hb.output, hb.size, fun k hk _ => hb.block k hk⟩ (by cases hv : v.ownBlock <;> simp)
theorem BysOf.alloc {B : Nat} {w : World} {v : Value} {L : List UInt8} (h : BysOf B w v L) (o : Obj) : BysOf B (w.alloc o) v L := World.ownsRow.alloc h o
theorem BysOf.at {B : Nat} {w : World} {v : Value} {L : List UInt8} (h : BysOf B w v L) (hn : 0 < L.length) : ∃ g c, v = .slice (some ⟨g, 0, none⟩) L.length c ∧ B ≤ g ∧ g < w.heap.size ∧ ∀ j (hj : j < L.length), w.cell? ⟨g, j, none⟩ = some (.int .u8 (L[j].toNat : Int)) := by
  obtain ⟨a, c, rfl, ho⟩ := own_outN h
  obtain ⟨g, rfl, hB, _, hb, hc⟩ := ho (by omega)
  refine ⟨g, c, rfl, hB, hb, fun j hj => ?_⟩
  rw [(hc j (by omega)).1]
  show some ((byteCells L).getD j (.int .i64 0)) = _
  rw [List.getD_eq_getElem?_getD]
  simp [byteCells, hj]
theorem one1 (x : Int) : ∀ u ∈ [Value.int .u8 x], u.oneCell' = true := by
  intro u hu
  simp only [List.mem_cons, List.not_mem_nil, or_false] at hu
  subst hu; rfl
theorem cells1 {w : World} {g : Nat} {x : Value} (c0 : w.cell? ⟨g, 0, none⟩ = some x) : ∀ j u, [x][j]? = some u → w.cell? ⟨g, j, none⟩ = some u := by
  intro j u hj
  rcases j with _ | j
  · rw [← hj]; exact c0
  · simp at hj

/-- A number's decimal text. -/
def dtx (n : Int) : ByteArray := ⟨(itoa n).toArray⟩
theorem dtx_size {n : Int} (h0 : -9223372036854775808 ≤ n) (h1 : n ≤ 9223372036854775807) : (dtx n).size ≤ 21 := by
  have h := Go.Lib.itoa_length_le n h0 h1
  have e : (dtx n).size = (itoa n).length := by unfold dtx; simp [ByteArray.size]
  omega
theorem str_add {P : Program} {a b : ByteArray} (h : a.size + b.size ≤ 1000000) : ∀ w, (Op.stringOp .add a b).run P w = .ok (.string (a ++ b)) w := fun w => run_string_add_sum w a b (by omega)

end Go.Proofs.YtejhngkbkcalaaaGreatDoor
