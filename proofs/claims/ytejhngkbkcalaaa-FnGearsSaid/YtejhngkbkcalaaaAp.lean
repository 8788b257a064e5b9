/-
  A slice of numbers that a call gathers by append.
-/
import Derived.Test.YtejhngkbkcalaaaM1
import Derived.Test.YtejhngkbkcalaaaRows
import Derived.WalkLawsBesides
import Derived.WalkSpells
import Derived.Outline
import Derived.Lib.Hide
namespace Go.Proofs.Ytejhngkbkcalaaa
open Go.RowKit
set_option linter.unusedVariables false
set_option linter.unusedSimpArgs false

/-- The slice value v holds the numbers L, in a row of the call's own from block B on (or is nil, and L empty). -/
def AppOf (B : Nat) (w : World) (v : Value) (L : List Int) : Prop := w.ownsRow B 2 1 v L.length (L.map (Value.int .i64))
theorem AppOf.nil (B : Nat) (w : World) : AppOf B w (.slice none 0 0) [] := World.ownsRow_nil w B _ 1
theorem AppOf.made {B : Nat} {w : World} (h : B ≤ w.heap.size) : AppOf B (w.alloc (.cells #[] 2)) (.slice (some ⟨w.heap.size, 0, none⟩) 0 0) [] := World.ownsRow_made w #[] 0 h (by decide) rfl
theorem AppOf.alloc {B : Nat} {w : World} {v : Value} {L : List Int} (h : AppOf B w v L) (o : Obj) : AppOf B (w.alloc o) v L := World.ownsRow.alloc h o
theorem AppOf.drew {B : Nat} {w : World} {v : Value} {L : List Int} (h : AppOf B w v L) : AppOf B w.drew v L := h
theorem AppOf.drewN {B : Nat} {w : World} {v : Value} {L : List Int} (h : AppOf B w v L) (n : Nat) : AppOf B (w.drewN n) v L := h
theorem AppOf.below {B : Nat} {w w' : World} {v : Value} {L : List Int} (h : AppOf B w v L) (hb : Below w.heap.size w w') : AppOf B w' v L :=
  World.ownsRow.kept (row := none) h ⟨hb.os, hb.tape, hb.output, hb.size, fun k hk _ => hb.block k hk⟩ (by cases hv : v.ownBlock <;> simp)
theorem AppOf.out {B : Nat} {w : World} {v : Value} {L : List Int} (h : AppOf B w v L) : ∃ a c, v = .slice a L.length c ∧ OwnIn B w.heap.size w a L.length (fun j => .int .i64 (L.getD j 0)) := own_out h
theorem AppOf.ret {w w' : World} {v : Value} {L : List Int} {code : Int} (h : AppOf w.heap.size w' v L) (hb : Below w.heap.size w w') : RetInts L code w (.returned (.tuple #[v, .int .i64 code])) w' := by
  obtain ⟨a, c, rfl, ho⟩ := h.out
  exact ⟨a, c, rfl, ho, hb⟩
theorem AppOf.ret0 {w w0 w' : World} {v : Value} {L : List Int} {code : Int} (h : AppOf w0.heap.size w' v L) (h0 : Below w.heap.size w w0) (hb : Below w0.heap.size w0 w') : RetInts L code w (.returned (.tuple #[v, .int .i64 code])) w' := by
  obtain ⟨a, c, rfl, ho⟩ := h.out
  exact ⟨a, c, rfl, ho.mono h0.size (Nat.le_refl _), h0.trans (hb.mono h0.size)⟩
theorem AppOf.row {w w' : World} {v : Value} {L : List Int} (h : AppOf w.heap.size w' v L) (hb : Below w.heap.size w w') : RetRow L w (.returned v) w' := by
  obtain ⟨a, c, rfl, ho⟩ := h.out
  exact ⟨a, c, rfl, ho, hb⟩
/-- The slice value v reads as the numbers L, in a row of the call's own from block B on. -/
def RowOf (B : Nat) (w : World) (v : Value) (L : List Int) : Prop := ∃ a c, v = .slice a L.length c ∧ OwnIn B w.heap.size w a L.length (fun j => .int .i64 (L.getD j 0))
theorem RowOf.empty (B : Nat) (w : World) (a : Option Addr) (c : Nat) : RowOf B w (.slice a 0 c) [] := ⟨a, c, rfl, OwnIn.none0⟩
theorem RowOf.below {B : Nat} {w w' : World} {v : Value} {L : List Int} (h : RowOf B w v L) (hb : Below w.heap.size w w') : RowOf B w' v L := by
  obtain ⟨a, c, rfl, ho⟩ := h
  exact ⟨a, c, rfl, (ho.below hb).mono (Nat.le_refl _) hb.size⟩
theorem RowOf.ret {w w0 w' : World} {v : Value} {L : List Int} {code : Int} (h : RowOf w0.heap.size w' v L) (h0 : Below w.heap.size w w0) (hb : Below w0.heap.size w0 w') : RetInts L code w (.returned (.tuple #[v, .int .i64 code])) w' := by
  obtain ⟨a, c, rfl, ho⟩ := h
  exact ⟨a, c, rfl, ho.mono h0.size (Nat.le_refl _), h0.trans (hb.mono h0.size)⟩
theorem ret_none {w w' : World} {a : Option Addr} {c : Nat} {code : Int} (hb : Below w.heap.size w w') : RetInts [] code w (.returned (.tuple #[.slice a 0 c, .int .i64 code])) w' := ⟨a, c, rfl, OwnIn.none0, hb⟩
theorem int64_parts : (Try.prog.info? 2).map (fun i => (i.zero, i.size, i.bytes)) = some (some (.int .i64 0), 1, 8) := by kernel_rfl
/-- append of one number. -/
theorem app_int {ops : Array Oper} {rest : List Oper} {o : Oper} {a : Act} {Q : Exit → Act → World → Prop} (w : World) (hgd : o.guard = none) (s x : Operand)
    (ho : o.op = .call { callee := .builtin .append, args := #[s, x], argTypes := #[26, 26] }) (B : Nat) (v : Value) (L : List Int) (hs : a.eval s = v) (hown : AppOf B w v L)
    (g c : Nat) (y : Int) (hx : a.eval x = .slice (some ⟨g, 0, none⟩) 1 c) (hg : w.cell? ⟨g, 0, none⟩ = some (.int .i64 y)) (hlen : L.length ≤ 16777216) (hbase : B ≤ w.heap.size)
    (h : ∀ v' w', AppOf B w' v' (L ++ [y]) → Below B w w' → wpList Try.prog ops Q rest (a.put o.dst v') w') : wpList Try.prog ops Q (o :: rest) a w := by
  obtain ⟨i0, hi, hz0, hz1, hz2⟩ := info_parts int64_parts
  refine wpList_append_own w hgd s x 26 ho B 2 i0 (.int .i64 0) 1 8 Try.underlying26 hi hz0 hz1 hz2 rfl (by decide) v L.length (L.map (Value.int .i64)) hs hown ⟨g, 0, none⟩ 1 c [.int .i64 y] hx rfl ?_ ?_ (by unfold maxLen; omega) (by omega) hbase ?_
  · intro j u hu
    cases j with
    | zero =>
      simp at hu; subst hu
      have : (⟨g, 0, none⟩ : Addr).add 0 = ⟨g, 0, none⟩ := by unfold Addr.add; simp
      rw [this]; exact hg
    | succ j => simp at hu
  · intro u hu
    simp at hu; subst hu; rfl
  · intro v' w' h1 h2 _
    refine h v' w' ?_ ?_
    · unfold AppOf; simpa using h1
    · exact Below.grown (Below.refl _ _) h2 hbase (fun k hk => (World.ownsRow.lt hown k hk).1)
end Go.Proofs.Ytejhngkbkcalaaa
