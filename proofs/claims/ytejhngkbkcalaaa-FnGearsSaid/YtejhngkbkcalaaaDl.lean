/-
  Contracts: lists of numbers drawn from bytes: some list in its bounds.
-/
import Derived.Test.YtejhngkbkcalaaaSrc
import Derived.Test.YtejhngkbkcalaaaAp
import Derived.Test.YtejhngkbkcalaaaBr
import Derived.Test.YtejhngkbkcalaaaUp
import Derived.StillTail
import Derived.Deep.DeepCutAuto
namespace Go.Proofs.Ytejhngkbkcalaaa
open Go.RowKit
set_option linter.unusedVariables false
set_option linter.unusedSimpArgs false

theorem AppOf.outc {B : Nat} {w : World} {v : Value} {L : List Int} (h : AppOf B w v L) : ∃ a c, v = .slice a L.length c ∧ L.length ≤ c ∧ c ≤ maxLen ∧ OwnIn B w.heap.size w a L.length (fun j => .int .i64 (L.getD j 0)) := by
  have h0 := h
  rcases h.2 with ⟨rfl, hn⟩ | ⟨g, cap, cur, rfl, hB, hg, hnc, hcc, _⟩
  · exact ⟨none, 0, by rw [hn], by omega, by unfold maxLen; omega, fun hp => by omega⟩
  · obtain ⟨a, c, e, hO⟩ := own_out h0
    have e1 : cap = c ∧ some (⟨g, 0, none⟩ : Addr) = a := by injection e with e1 e2 e3; exact ⟨e3, e1⟩
    obtain ⟨rfl, rfl⟩ := e1
    exact ⟨_, cap, rfl, hnc, hcc, hO⟩
theorem AppOf.keep {B g : Nat} {w w' : World} {v : Value} {L : List Int} (h : AppOf B w v L) (k : Keep g (g + 1) w w') (hg : g < B) : AppOf B w' v L :=
  World.ownsRow.kept (row := some g) h ⟨k.os, k.tape, k.output, k.size, fun i hi hne => k.block i hi (fun hh => hne (by obtain ⟨h1, h2⟩ := hh; congr 1; omega))⟩ (by
    cases hv : v.ownBlock
    · exact Or.inl rfl
    · rename_i x
      have := (World.ownsRow.lt h x hv).1
      exact Or.inr (fun e => by injection e with e; omega))
/-- The value is a slice of at most m numbers between lo and hi, that lie in a block of the call's own from B on. -/
def NumsIn (B : Nat) (w : World) (v : Value) (m : Nat) (lo hi : Int) : Prop := ∃ (a : Option Addr) (n c : Nat) (Z : Nat → Int), v = .slice a n c ∧ n ≤ m ∧ n ≤ c ∧ c ≤ 9223372036854775807 ∧ OwnIn B w.heap.size w a n (fun j => .int .i64 (Z j)) ∧ ∀ j, j < n → lo ≤ Z j ∧ Z j ≤ hi
theorem AppOf.nums {B m : Nat} {w : World} {v : Value} {L : List Int} {lo hi : Int} (h : AppOf B w v L) (hm : L.length ≤ m) (hv : ∀ y, y ∈ L → lo ≤ y ∧ y ≤ hi) : NumsIn B w v m lo hi := by
  obtain ⟨a, c, rfl, h1, h2, h3⟩ := h.outc
  refine ⟨a, L.length, c, fun j => L.getD j 0, rfl, hm, h1, by unfold maxLen at h2; omega, h3, fun j hj => hv _ ?_⟩
  have : L.getD j 0 = L[j] := by simp [List.getD_eq_getElem?_getD, hj]
  show L.getD j 0 ∈ L
  rw [this]
  exact List.getElem_mem _
theorem NumsIn.keep {B g m : Nat} {w w' : World} {v : Value} {lo hi : Int} (h : NumsIn B w v m lo hi) (k : Keep g (g + 1) w w') (hg : g < B) : NumsIn B w' v m lo hi := by
  obtain ⟨a, n, c, Z, rfl, h1, h2, h3, h4, h5⟩ := h
  exact ⟨a, n, c, Z, rfl, h1, h2, h3, (h4.keep k (by omega)).mono (Nat.le_refl _) k.size, h5⟩
theorem NumsIn.below {B m : Nat} {w w' : World} {v : Value} {lo hi : Int} (h : NumsIn B w v m lo hi) (k : Below w.heap.size w w') : NumsIn B w' v m lo hi := by
  obtain ⟨a, n, c, Z, rfl, h1, h2, h3, h4, h5⟩ := h
  exact ⟨a, n, c, Z, rfl, h1, h2, h3, (h4.below k).mono (Nat.le_refl _) k.size, h5⟩
theorem NumsIn.mono {B B' m : Nat} {w : World} {v : Value} {lo hi : Int} (h : NumsIn B w v m lo hi) (hB : B' ≤ B) : NumsIn B' w v m lo hi := by
  obtain ⟨a, n, c, Z, rfl, h1, h2, h3, h4, h5⟩ := h
  exact ⟨a, n, c, Z, rfl, h1, h2, h3, h4.mono hB (Nat.le_refl _), h5⟩
theorem nums_zero {B m : Nat} (w : World) (n : Nat) (t : TypeId) (h : B ≤ w.heap.size) (hn : n ≤ m) (h2 : n ≤ 1000000) : NumsIn B (w.alloc (.cells (madeCells #[.int .i64 0] n) t)) (.slice (some ⟨w.heap.size, 0, none⟩) n n) m (-1000000001) 1000000001 := by
  have ho := own_new (lo := B) (hi := (w.alloc (.cells (madeCells #[.int .i64 0] n) t)).heap.size) w (madeCells #[.int .i64 0] n) t h (by simp)
  rw [size_madeCells] at ho
  refine ⟨_, n, n, fun _ => 0, rfl, hn, Nat.le_refl _, by omega, ho.cong (fun j hj => ?_), fun j hj => by dsimp only; omega⟩
  have e : madeCells #[Value.int .i64 0] n = ⟨List.replicate n (.int .i64 0)⟩ := by
    rw [← toList_madeCells_one]
  rw [e]
  simp [hj]
/-- The last operations of a drawn region, where only one order is left. -/
theorem wpAny_tail {P : Program} {md : Region.Mode} {ops : Array Oper} {Q : Exit → Act → World → Prop} {f : Nat} {l : Array Bool} {a : Act} {w : World} (k : Nat) (hf : f = (ops.toList.drop k).length) (hB : Region.seqB md ops f k l = true) (h : wpList P ops Q (ops.toList.drop k) a w) : wpAny P md ops Q f l a w := by
  subst hf
  exact wpAny_of_seq _ k l a w (fun j => by simp [List.getElem?_drop]) hB h

theorem spec_among (g : Nat) (A : Int) (b o n c : Nat) (Z : Nat → Int) (w : World) (h : SrcAt w g A) (hA : A ≤ 1000000) (hZ : ∀ j, j < n → w.cell? ⟨b, o + j, none⟩ = some (.int .i64 (Z j))) (hb : b < w.heap.size) (hbg : b ≠ g) (hn : 0 < n) (hn2 : n ≤ 200) :
    Calls Try.prog 20 #[.pointer (some ⟨g, 0, none⟩), .slice (some ⟨b, o, none⟩) n c] w fun e w' => ∃ j A', e = .returned (.int .i64 (Z j)) ∧ j < n ∧ A ≤ A' ∧ A' ≤ A + 2 ∧ SrcAt w' g A' ∧ Keep g (g + 1) w w' := by
  have kp := spec_pick g A n w h hA (by omega)
  clear h
  have HC := Lib.hid hZ
  clear hZ
  go_enter Try.func20, Try.ntmps20
  go_wp2_with fail
  refine kp.mono ?_
  rintro e w1 ⟨x, A1, rfl, x0, x1, a0, a1, H1, K1⟩
  have x1' := x1 (by omega)
  obtain ⟨j, rfl⟩ : ∃ j : Nat, x = j := ⟨x.toNat, by omega⟩
  have hj : j < n := by omega
  have cj := (K1.cellk (b := b) (o := o + j) hb (by omega)).trans (HC.out j hj)
  have HH := Lib.hid H1
  clear H1 x1
  go_wp2
  go_returns
  exact ⟨j, A1, rfl, hj, a0, a1, HH.out, K1⟩

end Go.Proofs.Ytejhngkbkcalaaa
