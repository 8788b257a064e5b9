/-
  append of several numbers.
-/
import Derived.Test.YtccejaneammplaaAp
namespace Go.Proofs.Ytccejaneammplaa
open Go.RowKit
set_option linter.unusedVariables false
set_option linter.unusedSimpArgs false

/-- append of several numbers. -/
theorem app_many {ops : Array Oper} {rest : List Oper} {o : Oper} {a : Act} {Q : Exit → Act → World → Prop} (w : World) (hgd : o.guard = none) (s x : Operand)
    (ho : o.op = .call { callee := .builtin .append, args := #[s, x], argTypes := #[27, 27] }) (B : Nat) (v : Value) (L : List Int) (hs : a.eval s = v) (hown : AppOf B w v L)
    (g q m c : Nat) (Y : Nat → Int) (hx : a.eval x = .slice (some ⟨g, q, none⟩) m c) (hg : ∀ j, j < m → w.cell? ⟨g, q + j, none⟩ = some (.int .i64 (Y j))) (hlen : L.length + m ≤ 16777216) (hbase : B ≤ w.heap.size)
    (h : ∀ v' w', AppOf B w' v' (L ++ (List.range m).map Y) → Below B w w' → wpList Try.prog ops Q rest (a.put o.dst v') w') : wpList Try.prog ops Q (o :: rest) a w := by
  obtain ⟨i0, hi, hz0, hz1, hz2⟩ := info_parts int64_parts
  refine wpList_append_own w hgd s x 27 ho B 2 i0 (.int .i64 0) 1 8 Try.underlying27 hi hz0 hz1 hz2 rfl (by decide) v L.length (L.map (Value.int .i64)) hs hown ⟨g, q, none⟩ m c ((List.range m).map fun j => Value.int .i64 (Y j)) hx (by simp) ?_ ?_ (by unfold maxLen; omega) (by omega) hbase ?_
  · intro j u hu
    have hj : j < m := by
      have := (List.getElem?_eq_some_iff.1 hu).1
      simpa using this
    have : (⟨g, q, none⟩ : Addr).add j = ⟨g, q + j, none⟩ := by unfold Addr.add; simp
    rw [this, hg j hj, ← hu]
    simp [hj]
  · intro u hu
    obtain ⟨j, _, rfl⟩ := List.mem_map.1 hu
    rfl
  · intro v' w' h1 h2 _
    refine h v' w' ?_ ?_
    · unfold AppOf
      rw [List.length_append, List.map_append, List.length_map, List.length_range, List.map_map]
      exact h1
    · exact Below.grown (Below.refl _ _) h2 hbase (fun k hk => (World.ownsRow.lt hown k hk).1)
end Go.Proofs.Ytccejaneammplaa
