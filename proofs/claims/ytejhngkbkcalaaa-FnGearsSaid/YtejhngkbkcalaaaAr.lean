/-
  Slices of ints that a call gathers by append.
-/
import Derived.Test.YtejhngkbkcalaaaAp
namespace Go.Proofs.Ytejhngkbkcalaaa
open Go.RowKit
set_option linter.unusedVariables false
set_option linter.unusedSimpArgs false


/-- The slice value v holds the numbers L, in a row of ints of the call's own from block B on (or is nil, and L empty). -/
def NumOf (B : Nat) (w : World) (v : Value) (L : List Int) : Prop := w.ownsRow B 3 1 v L.length (L.map (Value.int .i64))
theorem NumOf.nil (B : Nat) (w : World) : NumOf B w (.slice none 0 0) [] := World.ownsRow_nil w B _ 1
theorem NumOf.alloc {B : Nat} {w : World} {v : Value} {L : List Int} (h : NumOf B w v L) (o : Obj) : NumOf B (w.alloc o) v L := World.ownsRow.alloc h o
theorem NumOf.below {B : Nat} {w w' : World} {v : Value} {L : List Int} (h : NumOf B w v L) (hb : Below w.heap.size w w') : NumOf B w' v L :=
  World.ownsRow.kept (row := none) h ⟨hb.os, hb.tape, hb.output, hb.size, fun k hk _ => hb.block k hk⟩ (by cases hv : v.ownBlock <;> simp)
theorem NumOf.out {B : Nat} {w : World} {v : Value} {L : List Int} (h : NumOf B w v L) : ∃ a c, v = .slice a L.length c ∧ OwnIn B w.heap.size w a L.length (fun j => .int .i64 (L.getD j 0)) := own_out h
theorem NumOf.row {w w' : World} {v : Value} {L : List Int} (h : NumOf w.heap.size w' v L) (hb : Below w.heap.size w w') : RetRow L w (.returned v) w' := by
  obtain ⟨a, c, rfl, ho⟩ := h.out
  exact ⟨a, c, rfl, ho, hb⟩
theorem int_parts : (Try.prog.info? 3).map (fun i => (i.zero, i.size, i.bytes)) = some (some (.int .i64 0), 1, 8) := by kernel_rfl
theorem app_num {ops : Array Oper} {rest : List Oper} {o : Oper} {a : Act} {Q : Exit → Act → World → Prop} (w : World) (hgd : o.guard = none) (s x : Operand)
    (ho : o.op = .call { callee := .builtin .append, args := #[s, x], argTypes := #[60, 60] }) (B : Nat) (v : Value) (L : List Int) (hs : a.eval s = v) (hown : NumOf B w v L)
    (g c : Nat) (y : Int) (hx : a.eval x = .slice (some ⟨g, 0, none⟩) 1 c) (hg : w.cell? ⟨g, 0, none⟩ = some (.int .i64 y)) (hlen : L.length ≤ 16777216) (hbase : B ≤ w.heap.size)
    (h : ∀ v' w', NumOf B w' v' (L ++ [y]) → Below B w w' → wpList Try.prog ops Q rest (a.put o.dst v') w') : wpList Try.prog ops Q (o :: rest) a w := by
  obtain ⟨i0, hi, hz0, hz1, hz2⟩ := info_parts int_parts
  refine wpList_append_own w hgd s x 60 ho B 3 i0 (.int .i64 0) 1 8 Try.underlying60 hi hz0 hz1 hz2 rfl (by decide) v L.length (L.map (Value.int .i64)) hs hown ⟨g, 0, none⟩ 1 c [.int .i64 y] hx rfl ?_ ?_ (by unfold maxLen; omega) (by omega) hbase ?_
  · intro j u hu
    cases j with
    | zero =>
      simp at hu; subst hu
      have : (⟨g, 0, none⟩ : Addr).add 0 = ⟨g, 0, none⟩ := by unfold Addr.add; simp
      rw [this]; exact hg
    | succ j => simp at hu
  · intro u hu
    simp at hu; subst hu; rfl
  · intro v' w' h1 h2 _
    refine h v' w' ?_ ?_
    · unfold NumOf; simpa using h1
    · exact Below.grown (Below.refl _ _) h2 hbase (fun k hk => (World.ownsRow.lt hown k hk).1)

end Go.Proofs.Ytejhngkbkcalaaa
