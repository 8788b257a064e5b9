/-
  Rows that calls make: where they lie, what keeps them, marks. No program in sight but the model's memory.
-/
import Derived.Test.YtjckgheidmfpnaaPs
import Derived.Test.YtjckgheidmfpnaaQt
namespace Go.Proofs.Ytjckgheidmfpnaa
open Go.RowKit
set_option linter.unusedVariables false
set_option linter.unusedSimpArgs false

/-- Only blocks from lo to hi, and new ones, may have turned. -/
structure Keep (lo hi : Nat) (w w' : World) : Prop where
  os : w'.os = w.os
  tape : w'.tape = w.tape
  output : w'.output = w.output
  size : w.heap.size ≤ w'.heap.size
  block : ∀ k, k < w.heap.size → ¬ (lo ≤ k ∧ k < hi) → w'.heap[k]? = w.heap[k]?
theorem Keep.refl (lo hi : Nat) (w : World) : Keep lo hi w w := ⟨rfl, rfl, rfl, Nat.le_refl _, fun _ _ _ => rfl⟩
theorem Keep.trans {lo hi : Nat} {a b c : World} (h : Keep lo hi a b) (k : Keep lo hi b c) : Keep lo hi a c :=
  ⟨k.os.trans h.os, k.tape.trans h.tape, k.output.trans h.output, Nat.le_trans h.size k.size, fun i hi hn => (k.block i (Nat.lt_of_lt_of_le hi h.size) hn).trans (h.block i hi hn)⟩
theorem Keep.of_below {lo hi : Nat} {w w' : World} (h : Below w.heap.size w w') : Keep lo hi w w' := ⟨h.os, h.tape, h.output, h.size, fun k hk _ => h.block k hk⟩
theorem Keep.below {lo hi B : Nat} {w w' : World} (h : Keep lo hi w w') (hB : B ≤ lo) (hw : B ≤ w.heap.size) : Below B w w' :=
  ⟨h.os, h.tape, h.output, h.size, fun k hk => h.block k (by omega) (by omega)⟩
theorem Keep.set {lo hi g j : Nat} {w w' : World} {u : Value} (h : Keep lo hi w w') (h1 : lo ≤ g) (h2 : g < hi) : Keep lo hi w (w'.setCell ⟨g, j, none⟩ u) :=
  ⟨h.os, h.tape, h.output, by simpa [World.setCell] using h.size, fun k hk hne => (Below.heap_setCell w' ⟨g, j, none⟩ u k (fun e => hne (by subst e; exact ⟨h1, h2⟩))).trans (h.block k hk hne)⟩
theorem Keep.drew {lo hi : Nat} {w w' : World} (h : Keep lo hi w w') : Keep lo hi w w'.drew := ⟨h.os, h.tape, h.output, h.size, h.block⟩
theorem Keep.alloc {lo hi : Nat} {w w' : World} {o : Obj} (h : Keep lo hi w w') : Keep lo hi w (w'.alloc o) :=
  h.trans (Keep.of_below (Below.alloc (Below.refl _ _) (Nat.le_refl _) o))
theorem Keep.thenBelow {lo hi : Nat} {a b c : World} (h : Keep lo hi a b) (k : Below b.heap.size b c) : Keep lo hi a c := h.trans (Keep.of_below k)

/-- The slice's first n cells, read: they lie in ONE block from lo to hi. -/
def CellsIn (lo hi : Nat) (w : World) (a : Option Addr) (n : Nat) (V : Nat → Value) : Prop :=
  0 < n → ∃ b o, a = some ⟨b, o, none⟩ ∧ lo ≤ b ∧ b < hi ∧ b < w.heap.size ∧ ∀ j, j < n → w.cell? ⟨b, o + j, none⟩ = some (V j)
/-- The same of a row that lies at the head of its block and is not frozen. -/
def OwnIn (lo hi : Nat) (w : World) (a : Option Addr) (n : Nat) (V : Nat → Value) : Prop :=
  0 < n → ∃ g, a = some ⟨g, 0, none⟩ ∧ lo ≤ g ∧ g < hi ∧ g < w.heap.size ∧ ∀ j, j < n → w.cell? ⟨g, j, none⟩ = some (V j) ∧ w.frozen? ⟨g, j, none⟩ = false
section
variable {lo hi lo' hi' n : Nat} {w w' : World} {a : Option Addr} {V V' : Nat → Value} {Z : Nat → Int}
theorem OwnIn.cells (h : OwnIn lo hi w a n V) : CellsIn lo hi w a n V := fun hn => by
  obtain ⟨g, rfl, h1, h2, h3, hc⟩ := h hn
  exact ⟨g, 0, rfl, h1, h2, h3, fun j hj => by rw [Nat.zero_add]; exact (hc j hj).1⟩
theorem CellsIn.keep (h : CellsIn lo hi w a n V) (k : Keep lo' hi' w w') (hd : hi ≤ lo' ∨ hi' ≤ lo) : CellsIn lo hi w' a n V := fun hn => by
  obtain ⟨b, o, rfl, h1, h2, h3, hc⟩ := h hn
  have hb : w'.heap[b]? = w.heap[b]? := k.block b h3 (by omega)
  exact ⟨b, o, rfl, h1, h2, Nat.lt_of_lt_of_le h3 k.size, fun j hj => (World.cell?_of_block (a := ⟨b, o + j, none⟩) hb).trans (hc j hj)⟩
theorem CellsIn.below (h : CellsIn lo hi w a n V) (k : Below w.heap.size w w') : CellsIn lo hi w' a n V := fun hn => by
  obtain ⟨b, o, rfl, h1, h2, h3, hc⟩ := h hn
  exact ⟨b, o, rfl, h1, h2, Nat.lt_of_lt_of_le h3 k.size, fun j hj => (k.cell (p := ⟨b, o + j, none⟩) h3).trans (hc j hj)⟩
theorem CellsIn.cong (h : CellsIn lo hi w a n V) (e : ∀ j, j < n → V j = V' j) : CellsIn lo hi w a n V' := fun hn => by
  obtain ⟨b, o, rfl, h1, h2, h3, hc⟩ := h hn
  exact ⟨b, o, rfl, h1, h2, h3, fun j hj => by rw [← e j hj]; exact hc j hj⟩
theorem CellsIn.ints (h : CellsIn lo hi w a n (fun j => .int .i64 (Z j))) : IntsAt w a n Z := fun hn => by
  obtain ⟨b, o, rfl, h1, h2, h3, hc⟩ := h hn
  exact ⟨b, o, rfl, h3, hc⟩
theorem CellsIn.mono (h : CellsIn lo hi w a n V) (h1 : lo' ≤ lo) (h2 : hi ≤ hi') : CellsIn lo' hi' w a n V := fun hn => by
  obtain ⟨b, o, rfl, h3, h4, h5, hc⟩ := h hn
  exact ⟨b, o, rfl, Nat.le_trans h1 h3, Nat.lt_of_lt_of_le h4 h2, h5, hc⟩
theorem OwnIn.mono (h : OwnIn lo hi w a n V) (h1 : lo' ≤ lo) (h2 : hi ≤ hi') : OwnIn lo' hi' w a n V := fun hn => by
  obtain ⟨b, rfl, h3, h4, h5, hc⟩ := h hn
  exact ⟨b, rfl, Nat.le_trans h1 h3, Nat.lt_of_lt_of_le h4 h2, h5, hc⟩
theorem OwnIn.keep (h : OwnIn lo hi w a n V) (k : Keep lo' hi' w w') (hd : hi ≤ lo' ∨ hi' ≤ lo) : OwnIn lo hi w' a n V := fun hn => by
  obtain ⟨g, rfl, h1, h2, h3, hc⟩ := h hn
  have hb : w'.heap[g]? = w.heap[g]? := k.block g h3 (by omega)
  exact ⟨g, rfl, h1, h2, Nat.lt_of_lt_of_le h3 k.size, fun j hj => ⟨(World.cell?_of_block (a := ⟨g, j, none⟩) hb).trans (hc j hj).1, (World.frozen?_of_block (a := ⟨g, j, none⟩) hb).trans (hc j hj).2⟩⟩
theorem OwnIn.below (h : OwnIn lo hi w a n V) (k : Below w.heap.size w w') : OwnIn lo hi w' a n V := fun hn => by
  obtain ⟨g, rfl, h1, h2, h3, hc⟩ := h hn
  exact ⟨g, rfl, h1, h2, Nat.lt_of_lt_of_le h3 k.size, fun j hj => ⟨(k.cell (p := ⟨g, j, none⟩) h3).trans (hc j hj).1, (k.frozen (p := ⟨g, j, none⟩) h3).trans (hc j hj).2⟩⟩
theorem OwnIn.cong (h : OwnIn lo hi w a n V) (e : ∀ j, j < n → V j = V' j) : OwnIn lo hi w a n V' := fun hn => by
  obtain ⟨g, rfl, h1, h2, h3, hc⟩ := h hn
  exact ⟨g, rfl, h1, h2, h3, fun j hj => by rw [← e j hj]; exact hc j hj⟩
theorem OwnIn.ints (h : OwnIn lo hi w a n (fun j => .int .i64 (Z j))) : IntsAt w a n Z := h.cells.ints
theorem IntsAt.cells (h : IntsAt w a n Z) : CellsIn 0 w.heap.size w a n (fun j => .int .i64 (Z j)) := fun hn => by
  obtain ⟨b, o, rfl, h1, hc⟩ := h hn
  exact ⟨b, o, rfl, Nat.zero_le _, h1, h1, hc⟩
theorem RowAt.ownIn {g : Nat} {t : TypeId} (h : RowAt w g n t Z) (h1 : lo ≤ g) (h2 : g < hi) : OwnIn lo hi w (some ⟨g, 0, none⟩) n (fun j => .int .i64 (Z j)) :=
  fun _ => ⟨g, rfl, h1, h2, h.lt, fun j hj => ⟨h.cell hj, by unfold World.frozen?; rw [show w.heap[(⟨g, j, none⟩ : Addr).block]? = _ from h]; simp⟩⟩
theorem OwnIn.set {g m : Nat} (h : OwnIn lo hi w (some ⟨g, 0, none⟩) n V) (hm : m < n) (u : Value) :
    OwnIn lo hi (w.setCell ⟨g, m, none⟩ u) (some ⟨g, 0, none⟩) n (fun j => if j = m then u else V j) := fun hn => by
  obtain ⟨g', e, h1, h2, h3, hc⟩ := h hn
  obtain rfl : g = g' := by simpa using e
  refine ⟨g, rfl, h1, h2, lt_set h3, fun j hj => ⟨?_, ?_⟩⟩
  · dsimp only
    by_cases hjm : j = m
    · subst hjm; rw [if_pos rfl]; exact cell_same (hc j hj).1
    · rw [if_neg hjm]; exact cell_off (hc j hj).1 hjm
  · simpa using (hc j hj).2
theorem OwnIn.alloc {o : Obj} (h : OwnIn lo hi w a n V) : OwnIn lo hi (w.alloc o) a n V := h.below (Below.alloc (Below.refl _ _) (Nat.le_refl _) o)
theorem OwnIn.drew (h : OwnIn lo hi w a n V) : OwnIn lo hi w.drew a n V := h.below (Below.drew (Below.refl _ _))
theorem own_new (w : World) (cs : Array Value) (e : TypeId) (h1 : lo ≤ w.heap.size) (h2 : w.heap.size < hi) : OwnIn lo hi (w.alloc (.cells cs e)) (some ⟨w.heap.size, 0, none⟩) cs.size (fun q => cs[q]?.getD (.int .i64 0)) :=
  fun _ => ⟨w.heap.size, rfl, h1, h2, by simp, fun j hj => ⟨by rw [cell_of_row _ _ j cs e (0, 0) (heap_alloc_new w _)]; simp [hj], World.frozen?_alloc_at _ _ _ _ rfl⟩⟩
theorem OwnIn.at {g j : Nat} (h : OwnIn lo hi w (some ⟨g, 0, none⟩) n V) (hj : j < n) : w.cell? ⟨g, j, none⟩ = some (V j) := by
  obtain ⟨g', e, _, _, _, hc⟩ := h (by omega)
  have e2 : g = g' := by injection e with e1; injection e1
  subst e2
  exact (hc j hj).1
theorem OwnIn.block {g : Nat} (h : OwnIn lo hi w (some ⟨g, 0, none⟩) n V) (hn : 0 < n) : g < w.heap.size := by
  obtain ⟨g', e, _, _, h3, _⟩ := h hn
  have e2 : g = g' := by injection e with e1; injection e1
  subst e2
  exact h3
theorem OwnIn.none0 : OwnIn lo hi w a 0 V := fun h => absurd h (by omega)
end
/-- What has been gathered by append reads as numbers. -/
theorem own_out {w : World} {B : Nat} {e : TypeId} {v : Value} {L : List Int} (h : w.ownsRow B e 1 v L.length (L.map (Value.int .i64))) :
    ∃ a c, v = .slice a L.length c ∧ OwnIn B w.heap.size w a L.length (fun j => .int .i64 (L.getD j 0)) := by
  have h0 := h
  rcases h.2 with ⟨rfl, hn⟩ | ⟨g, cap, cur, rfl, hB, hg, _⟩
  · exact ⟨none, 0, by rw [hn], fun hp => by omega⟩
  · have hl : g < w.heap.size := by
      rcases Nat.lt_or_ge g w.heap.size with h1 | h1
      · exact h1
      · rw [Array.getElem?_eq_none h1] at hg; cases hg
    refine ⟨_, cap, rfl, fun _ => ⟨g, rfl, hB, hl, hl, fun j hj => ⟨?_, h0.frozenAt j⟩⟩⟩
    rw [h0.cellAt j (by omega)]
    simp [hj]
/-- A call gives back a list of numbers in a row of its own, and a code. -/
def RetInts (L : List Int) (code : Int) (w : World) (e : Ending) (w' : World) : Prop :=
  ∃ a c, e = .returned (.tuple #[.slice a L.length c, .int .i64 code]) ∧ OwnIn w.heap.size w'.heap.size w' a L.length (fun j => .int .i64 (L.getD j 0)) ∧ Below w.heap.size w w'
/-- The same without a code. -/
def RetRow (L : List Int) (w : World) (e : Ending) (w' : World) : Prop :=
  ∃ a c, e = .returned (.slice a L.length c) ∧ OwnIn w.heap.size w'.heap.size w' a L.length (fun j => .int .i64 (L.getD j 0)) ∧ Below w.heap.size w w'
/-- A call gives back a slice of n elements in a row of its own, of m cells. -/
def RetSlice (m n : Nat) (V : Nat → Value) (w : World) (e : Ending) (w' : World) : Prop :=
  ∃ a c, e = .returned (.slice a n c) ∧ OwnIn w.heap.size w'.heap.size w' a m V ∧ Below w.heap.size w w'
/-- The marks that a law writes. -/
def marksFrom (k : Int) (q : Nat) : Value := .int .i64 (k + q)
end Go.Proofs.Ytjckgheidmfpnaa
