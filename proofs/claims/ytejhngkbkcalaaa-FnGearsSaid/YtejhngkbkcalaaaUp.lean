/-
  A source of drawn numbers and a window of blocks beside a call that makes memory.
-/
import Derived.Test.YtejhngkbkcalaaaSrc
namespace Go.Proofs.Ytejhngkbkcalaaa
open Go.RowKit
set_option linter.unusedVariables false
set_option linter.unusedSimpArgs false

theorem SrcAt.up {B : Nat} {w w' : World} {g : Nat} {A : Int} (h : SrcAt w g A) (k : Below B w w') (hg : g < B) : SrcAt w' g A := by
  obtain ⟨h0, h1, h2, h3, h4, ⟨S, h5⟩, a, n, c, h6, h7, h8, h9⟩ := h
  refine ⟨h0, Nat.lt_of_lt_of_le h1 k.size, (k.cell (p := ⟨g, 1, none⟩) hg).trans h2, (k.frozen (p := ⟨g, 1, none⟩) hg).trans h3, (k.frozen (p := ⟨g, 2, none⟩) hg).trans h4, ⟨S, (k.cell (p := ⟨g, 2, none⟩) hg).trans h5⟩, a, n, c, (k.cell (p := ⟨g, 0, none⟩) hg).trans h6, h7, fun hn => ?_, h9⟩
  obtain ⟨b, o, e, hb, hc⟩ := h8 hn
  refine ⟨b, o, e, Nat.lt_of_lt_of_le hb k.size, fun j hj => ?_⟩
  obtain ⟨z, z0, z1, hz⟩ := hc j hj
  exact ⟨z, z0, z1, (k.cell (p := ⟨b, o + j, none⟩) (Nat.lt_trans (h9 hn b o e) hg)).trans hz⟩
theorem Keep.up {lo hi B : Nat} {w w1 w2 : World} (h : Keep lo hi w w1) (k : Below B w1 w2) (hB : w.heap.size ≤ B) : Keep lo hi w w2 :=
  ⟨k.os.trans h.os, k.tape.trans h.tape, k.output.trans h.output, Nat.le_trans h.size k.size, fun i hi hn => (k.block i (by omega)).trans (h.block i hi hn)⟩
end Go.Proofs.Ytejhngkbkcalaaa
