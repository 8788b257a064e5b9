/-
  Contracts: a brake drawn; numbers that an input chooses.
-/
import Derived.Test.YtejhngkbkcalaaaSrc
import Derived.Test.YtejhngkbkcalaaaM1
namespace Go.Proofs.Ytejhngkbkcalaaa
open Go.RowKit
set_option linter.unusedVariables false
set_option linter.unusedSimpArgs false

theorem Keep.cellk {lo hi b o : Nat} {w w' : World} (k : Keep lo hi w w') (hb : b < w.heap.size) (hn : ¬ (lo ≤ b ∧ b < hi)) : w'.cell? ⟨b, o, none⟩ = w.cell? ⟨b, o, none⟩ := World.cell?_of_block (a := ⟨b, o, none⟩) (k.block b hb hn)
theorem Keep.frozenk {lo hi b o : Nat} {w w' : World} (k : Keep lo hi w w') (hb : b < w.heap.size) (hn : ¬ (lo ≤ b ∧ b < hi)) : w'.frozen? ⟨b, o, none⟩ = w.frozen? ⟨b, o, none⟩ := World.frozen?_of_block (a := ⟨b, o, none⟩) (k.block b hb hn)
theorem Keep.setFresh {lo hi g j B : Nat} {w w' : World} {u : Value} (h : Keep lo hi w w') (hB : w.heap.size ≤ g) : Keep lo hi w (w'.setCell ⟨g, j, none⟩ u) :=
  ⟨h.os, h.tape, h.output, by simpa [World.setCell] using h.size, fun k hk hne => (Below.heap_setCell w' ⟨g, j, none⟩ u k (fun e => by simp at e; omega)).trans (h.block k hk hne)⟩

end Go.Proofs.Ytejhngkbkcalaaa
