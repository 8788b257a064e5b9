/-
  Rows of strings.
-/
import Derived.Test.YtejhngkbkcalaaaGreatDoorM1
import Derived.Test.YtejhngkbkcalaaaGreatDoorAn
import Derived.Test.YtejhngkbkcalaaaGreatDoorQu
namespace Go.Proofs.YtejhngkbkcalaaaGreatDoor
open Go.RowKit
set_option linter.unusedVariables false
set_option linter.unusedSimpArgs false

def StrsOf (B : Nat) (w : World) (v : Value) (L : List ByteArray) : Prop := w.ownsRow B 9 1 v L.length (L.map Value.string)
theorem string_info : (Tryz.prog.info? 9).map (fun i => (i.zero, i.size, i.bytes)) = some (some (.string ⟨#[]⟩), 1, 16) := by kernel_rfl
theorem StrsOf.snoc {B : Nat} {w : World} {v : Value} {L : List ByteArray} {c : ByteArray} (h : w.ownsRow B 9 1 v (L.length + 1) (L.map Value.string ++ [.string c])) : StrsOf B w v (L ++ [c]) := by
  unfold StrsOf
  rw [List.length_append, List.map_append]
  exact h
theorem StrsOf.below {B : Nat} {w w' : World} {v : Value} {L : List ByteArray} (h : StrsOf B w v L) (hb : Below w.heap.size w w') : StrsOf B w' v L :=
  World.ownsRow.kept (row := none) h ⟨hb.os, hb.tape, hb.output, hb.size, fun k hk _ => hb.block k hk⟩ (by cases hv : v.ownBlock <;> simp)
theorem StrsOf.at {B : Nat} {w : World} {v : Value} {L : List ByteArray} (h : StrsOf B w v L) (hn : 0 < L.length) : ∃ g c, v = .slice (some ⟨g, 0, none⟩) L.length c ∧ g < w.heap.size ∧ L.length ≤ c ∧ ∀ j x, L[j]? = some x → w.cell? ⟨g, 0 + j, none⟩ = some (.string x) := by
  obtain ⟨a, c, hv, ho⟩ := own_outN h
  rcases h.2 with ⟨rfl, h0⟩ | ⟨g, cap, cur, rfl, hB, hg, hc, _⟩
  · omega
  · obtain ⟨rfl, -, rfl⟩ := Value.slice.inj hv
    obtain ⟨g', hgg, hB', _, hb, hcc⟩ := ho (by omega)
    obtain rfl : g = g' := congrArg (fun x : Option Addr => x.elim 0 Addr.block) hgg
    refine ⟨g, cap, rfl, hb, hc, fun j x hj => ?_⟩
    have hj' : j < L.length := (List.getElem?_eq_some_iff.1 hj).1
    rw [Nat.zero_add, (hcc j (by omega)).1]
    show some ((L.map Value.string).getD j (.int .i64 0)) = _
    rw [List.getD_eq_getElem?_getD, List.getElem?_map, hj]; rfl
theorem oneS (x : ByteArray) : ∀ u ∈ [Value.string x], u.oneCell' = true := by
  intro u hu
  simp only [List.mem_cons, List.not_mem_nil, or_false] at hu
  subst hu; rfl
end Go.Proofs.YtejhngkbkcalaaaGreatDoor
