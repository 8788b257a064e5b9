/-
  Append of one number, with what is kept told whole; a door's block beside it.
-/
import Derived.Test.YtdhjnpjemaofoaaDoorAp
import Derived.Test.YtdhjnpjemaofoaaDoorM1
import Derived.Below
namespace Go.Proofs.YtdhjnpjemaofoaaDoor
open Go.RowKit
set_option linter.unusedVariables false
set_option linter.unusedSimpArgs false

theorem app_intK {ops : Array Oper} {rest : List Oper} {o : Oper} {a : Act} {Q : Exit → Act → World → Prop} (w : World) (hgd : o.guard = none) (s x : Operand)
    (ho : o.op = .call { callee := .builtin .append, args := #[s, x], argTypes := #[26, 26] }) (B : Nat) (v : Value) (L : List Int) (hs : a.eval s = v) (hown : AppOf B w v L)
    (g c : Nat) (y : Int) (hx : a.eval x = .slice (some ⟨g, 0, none⟩) 1 c) (hg : w.cell? ⟨g, 0, none⟩ = some (.int .i64 y)) (hlen : L.length ≤ 16777216) (hbase : B ≤ w.heap.size)
    (h : ∀ v' w', AppOf B w' v' (L ++ [y]) → Below B w w' → (∀ b, b < w.heap.size → v.ownBlock ≠ some b → w'.heap[b]? = w.heap[b]?) → wpList Tryd.prog ops Q rest (a.put o.dst v') w') : wpList Tryd.prog ops Q (o :: rest) a w := by
  obtain ⟨i0, hi, hz0, hz1, hz2⟩ := info_parts int64_parts
  refine wpList_append_own w hgd s x 26 ho B 2 i0 (.int .i64 0) 1 8 Tryd.underlying26 hi hz0 hz1 hz2 rfl (by decide) v L.length (L.map (Value.int .i64)) hs hown ⟨g, 0, none⟩ 1 c [.int .i64 y] hx rfl ?_ ?_ (by unfold maxLen; omega) (by omega) hbase ?_
  · intro j u hu
    cases j with
    | zero =>
      simp at hu; subst hu
      have : (⟨g, 0, none⟩ : Addr).add 0 = ⟨g, 0, none⟩ := by unfold Addr.add; simp
      rw [this]; exact hg
    | succ j => simp at hu
  · intro u hu
    simp at hu; subst hu; rfl
  · intro v' w' h1 h2 _
    refine h v' w' ?_ ?_ ?_
    · unfold AppOf; simpa using h1
    · exact Below.grown (Below.refl _ _) h2 hbase (fun k hk => (World.ownsRow.lt hown k hk).1)
    · intro b hb hne
      exact h2.block b hb (fun e => hne e.symm)
theorem cell_blk {w w' : World} {b i : Nat} (h : w'.heap[b]? = w.heap[b]?) : w'.cell? ⟨b, i, none⟩ = w.cell? ⟨b, i, none⟩ := by
  unfold World.cell?; simp only [h]
theorem AppOf.other {B b : Nat} {w : World} {v : Value} {L : List Int} (h : AppOf B w v L) (hb : w.heap.size ≤ b) : v.ownBlock ≠ some b := fun e => by
  have := (World.ownsRow.lt h _ e).2
  omega
theorem AppOf.put3 {B g : Nat} {w : World} {v : Value} {L : List Int} (h : AppOf B w v L) (hg : g < B) (u0 u1 u2 : Value) : AppOf B (((w.setCell ⟨g, 0, none⟩ u0).setCell ⟨g, 1, none⟩ u1).setCell ⟨g, 2, none⟩ u2) v L :=
  ownsRow_setCell_below (ownsRow_setCell_below (ownsRow_setCell_below h hg u0) hg u1) hg u2
theorem DrAt.low {w w' : World} {g B : Nat} {x : Dr} (h : DrAt w g x) (hb : Below B w w') (hg : g < B) : DrAt w' g x := fun hn => by
  obtain ⟨g', e, h1, h2, h3, hc⟩ := h hn
  have e2 : g = g' := by injection e with e1; injection e1
  subst e2
  exact ⟨g, rfl, h1, h2, Nat.lt_of_lt_of_le h3 hb.size, fun j hj => ⟨(hb.cell (p := ⟨g, j, none⟩) hg).trans (hc j hj).1, (hb.frozen (p := ⟨g, j, none⟩) hg).trans (hc j hj).2⟩⟩
end Go.Proofs.YtdhjnpjemaofoaaDoor
