/-
  Arguments opened: slices of structs of one-cell fields.
-/
import Derived.Test.YtngeaojimehlbaaOp
import Derived.Test.YtngeaojimehlbaaPk
import Derived.Test.YtngeaojimehlbaaPr
import Derived.Deep.Slices
namespace Go.Proofs.Ytngeaojimehlbaa
open Go.ChangeShapes Go.WideShapes Go.Deep
open Go.RowKit (intOf)
set_option linter.unusedVariables false

section
variable {H : Type} {enc : TypeId × Value → H} {P : Program} {w : World} {base : Nat} {held : Bool}
theorem cells_open {t e : TypeId} {fs : Array Field} {a : Option Addr} {len cap : Nat} {d : DataW H} {p : List MemPlace} (ht : P.underlying t = some (.slice e)) (he : P.underlying e = some (.struct fs))
    (hone : oneCellFields P fs = true) (hC : P.cellsOf e = fs.size) (h : DataW.Trod enc P w base (fun _ => true) held t (.slice a len cap) d p) :
    ∃ V : Nat → Value, CellsIn 0 w.heap.size w a (fs.size * len) V ∧ len ≤ 9223372036854775807 ∧ ∀ i, i < len → ∀ (j : Nat) (f : Field), fs[j]? = some f → ∃ n y, DataW.trod enc P w base (fun _ => true) held n f.type [V (fs.size * i + j)] = some y := by
  obtain ⟨fuel, hf⟩ := h
  rcases open_slice ht hf with ⟨hcs, _⟩ | ⟨x, l, c, m, n, D, Pl, hcs, _, hl, hm, hmm, _, hi⟩
  · simp [Value.cells] at hcs
    obtain ⟨rfl, rfl, rfl⟩ := hcs
    exact ⟨fun _ => .int .i64 0, fun h => absurd h (by omega), by omega, fun i hi => absurd hi (by omega)⟩
  · simp [Value.cells] at hcs
    obtain ⟨rfl, rfl, rfl⟩ := hcs
    simp only [if_true] at hmm
    subst hmm
    obtain ⟨b, off, spot⟩ := x
    have all : ∀ i, i < len → ∃ cs', cs'.length = fs.size ∧ (∀ j, j < fs.size → w.cell? (((⟨b, off, spot⟩ : Addr).add (i * fs.size)).add j) = cs'[j]?) ∧ DataW.trod enc P w base (fun _ => true) held n e cs' = some (D i, Pl i) := fun i h => by
      obtain ⟨cs', h1, h2⟩ := hi i (by omega)
      obtain ⟨_, h3, h4⟩ := World.cells?_some h1
      rw [hC] at h3 h4
      exact ⟨cs', h3, h4, h2⟩
    have hadd : ∀ i j, ((⟨b, off, none⟩ : Addr).add (i * fs.size)).add j = ⟨b, off + (fs.size * i + j), none⟩ := fun i j => by
      have e1 : ∀ q k, (⟨b, q, none⟩ : Addr).add k = ⟨b, q + k, none⟩ := fun q k => by
        unfold Addr.add
        by_cases h : k = 0
        · subst h; simp
        · simp [h]
      rw [e1, e1, Nat.mul_comm i, Nat.add_assoc]
    refine ⟨fun q => (w.cell? ⟨b, off + q, none⟩).getD (.int .i64 0), fun hn => ?_, by unfold maxLen at hm; omega, fun i h j f hj => ?_⟩
    · have hp : 0 < fs.size := Nat.pos_of_mul_pos_right hn |> fun _ => by
        rcases Nat.eq_zero_or_pos fs.size with h0 | h0
        · rw [h0] at hn; omega
        · exact h0
      have hlen : 0 < len := by
        rcases Nat.eq_zero_or_pos len with h0 | h0
        · rw [h0] at hn; omega
        · exact h0
      obtain ⟨cs0, l0, c0, _⟩ := all 0 hlen
      have h0 := c0 0 hp
      rw [List.getElem?_eq_getElem (by omega)] at h0
      have hs : spot = none := by simpa [Addr.add] using World.cell?_spot h0
      subst hs
      have hb : b < w.heap.size := by
        have := World.block_lt_of_cell? w _ h0
        simpa [Addr.add] using this
      refine ⟨b, off, rfl, Nat.zero_le _, hb, hb, fun q hq => ?_⟩
      obtain ⟨cs', l1, c1, _⟩ := all (q / fs.size) (Nat.div_lt_of_lt_mul hq)
      have h1 := c1 (q % fs.size) (Nat.mod_lt _ hp)
      rw [hadd, Nat.div_add_mod, List.getElem?_eq_getElem (by rw [l1]; exact Nat.mod_lt _ hp)] at h1
      simp only [h1, Option.getD_some]
    · obtain ⟨cs', l1, c1, t1⟩ := all i h
      obtain ⟨ho, hk⟩ := hone_of hone j f hj
      have hjl : j < fs.size := (Array.getElem?_eq_some_iff.1 hj).1
      obtain ⟨cs0, l0, c0, _⟩ := all 0 (by omega)
      have h0 := c0 0 (by omega)
      rw [List.getElem?_eq_getElem (by omega)] at h0
      have hs : spot = none := by simpa [Addr.add] using World.cell?_spot h0
      subst hs
      have h1 := c1 j hjl
      rw [hadd, List.getElem?_eq_getElem (by omega)] at h1
      obtain ⟨ys, n', _, _, _, hyl, hg⟩ := DataW.trod_struct he t1
      have h2 := hg j f hj
      rw [ho, hk] at h2
      have hd : (cs'.drop j).take 1 = [cs'[j]'(by omega)] := by
        rw [List.drop_eq_getElem_cons (by omega)]
        rfl
      rw [hd, List.getElem?_eq_getElem (by omega)] at h2
      simp only [h1, Option.getD_some]
      exact ⟨_, _, h2⟩
theorem int_cell {t : TypeId} {n : Nat} {v : Value} {y : DataW H × List MemPlace} {spare : Nat → Bool} (ht : P.underlying t = some (.int .i64)) (h : DataW.trod enc P w base spare held n t [v] = some y) : v = .int .i64 (intOf v) := by
  obtain ⟨z, e, _⟩ := DataW.trod_int ht h
  simp only [List.cons.injEq, and_true] at e
  subst e; rfl
def strOf : Value → ByteArray | .string s => s | _ => ⟨#[]⟩
theorem str_cell {t : TypeId} {n : Nat} {v : Value} {y : DataW H × List MemPlace} {spare : Nat → Bool} (ht : P.underlying t = some .string) (h : DataW.trod enc P w base spare held n t [v] = some y) : v = .string (strOf v) := by
  obtain ⟨z, e, _⟩ := DataW.trod_string ht h
  simp only [List.cons.injEq, and_true] at e
  subst e; rfl
theorem str_size {t : TypeId} {n : Nat} {v : Value} {y : DataW H × List MemPlace} {spare : Nat → Bool} (ht : P.underlying t = some .string) (h : DataW.trod enc P w base spare held n t [v] = some y) : (strOf v).size ≤ 9223372036854775807 := by
  obtain ⟨z, e, _, hs⟩ := DataW.trod_string ht h
  simp only [List.cons.injEq, and_true] at e
  subst e; unfold maxLen at hs; exact hs
theorem pass_open {t e : TypeId} {f0 f1 : Field} {a : Option Addr} {len cap : Nat} {d : DataW H} {p : List MemPlace} (ht : P.underlying t = some (.slice e)) (he : P.underlying e = some (.struct #[f0, f1]))
    (hone : oneCellFields P #[f0, f1] = true) (hC : P.cellsOf e = 2) (h0 : P.underlying f0.type = some (.int .i64)) (h1 : P.underlying f1.type = some (.int .i64)) (h : DataW.Trod enc P w base (fun _ => true) held t (.slice a len cap) d p) :
    ∃ S T : Nat → Int, CellsIn 0 w.heap.size w a (2 * len) (psV S T) ∧ len ≤ 9223372036854775807 := by
  obtain ⟨V, hV, hm, hF⟩ := cells_open ht he hone hC h
  refine ⟨fun k => intOf (V (2 * k)), fun k => intOf (V (2 * k + 1)), hV.cong (fun q hq => ?_), hm⟩
  have hq' : q < 2 * len := hq
  have e : q = 2 * (q / 2) + q % 2 := by omega
  rcases (show q % 2 = 0 ∨ q % 2 = 1 by omega) with hr | hr
  · obtain ⟨_, _, t0⟩ := hF (q / 2) (by omega) 0 f0 rfl
    have := int_cell h0 t0
    unfold psV; rw [if_pos hr]
    rw [hr, Nat.add_zero] at e
    rw [e] at this ⊢
    simpa using this
  · obtain ⟨_, _, t1⟩ := hF (q / 2) (by omega) 1 f1 rfl
    have := int_cell h1 t1
    unfold psV; rw [if_neg (by omega)]
    rw [hr] at e
    simp only [List.size_toArray, List.length_cons, List.length_nil] at this
    rw [show 0 + 1 + 1 = 2 from rfl, ← e] at this
    dsimp only
    rw [show 2 * (q / 2) + 1 = q from e.symm]
    exact this
theorem doors_open {t e : TypeId} {f0 f1 f2 : Field} {a : Option Addr} {len cap : Nat} {d : DataW H} {p : List MemPlace} (ht : P.underlying t = some (.slice e)) (he : P.underlying e = some (.struct #[f0, f1, f2]))
    (hone : oneCellFields P #[f0, f1, f2] = true) (hC : P.cellsOf e = 3) (h0 : P.underlying f0.type = some (.int .i64)) (h1 : P.underlying f1.type = some (.int .i64)) (h2 : P.underlying f2.type = some (.int .i64)) (h : DataW.Trod enc P w base (fun _ => true) held t (.slice a len cap) d p) :
    ∃ S T U : Nat → Int, CellsIn 0 w.heap.size w a (3 * len) (drV S T U) ∧ len ≤ 9223372036854775807 := by
  obtain ⟨V, hV, hm, hF⟩ := cells_open ht he hone hC h
  refine ⟨fun k => intOf (V (3 * k)), fun k => intOf (V (3 * k + 1)), fun k => intOf (V (3 * k + 2)), hV.cong (fun q hq => ?_), hm⟩
  have hq' : q < 3 * len := hq
  have e : q = 3 * (q / 3) + q % 3 := by omega
  rcases (show q % 3 = 0 ∨ q % 3 = 1 ∨ q % 3 = 2 by omega) with hr | hr | hr
  · obtain ⟨_, _, t0⟩ := hF (q / 3) (by omega) 0 f0 rfl
    have := int_cell h0 t0
    unfold drV; rw [if_pos hr]
    rw [hr, Nat.add_zero] at e
    dsimp only
    rw [show 3 * (q / 3) = q from e.symm]
    simp only [List.size_toArray, List.length_cons, List.length_nil, Nat.add_zero] at this
    rw [show (0 + 1 + 1 + 1) * (q / 3) = q from e.symm] at this
    exact this
  · obtain ⟨_, _, t1⟩ := hF (q / 3) (by omega) 1 f1 rfl
    have := int_cell h1 t1
    unfold drV; rw [if_neg (by omega), if_pos hr]
    rw [hr] at e
    dsimp only
    rw [show 3 * (q / 3) + 1 = q from e.symm]
    simp only [List.size_toArray, List.length_cons, List.length_nil] at this
    rw [show (0 + 1 + 1 + 1) * (q / 3) + 1 = q from e.symm] at this
    exact this
  · obtain ⟨_, _, t2⟩ := hF (q / 3) (by omega) 2 f2 rfl
    have := int_cell h2 t2
    unfold drV; rw [if_neg (by omega), if_neg (by omega)]
    rw [hr] at e
    dsimp only
    rw [show 3 * (q / 3) + 2 = q from e.symm]
    simp only [List.size_toArray, List.length_cons, List.length_nil] at this
    rw [show (0 + 1 + 1 + 1) * (q / 3) + 2 = q from e.symm] at this
    exact this
theorem workers_open {t e : TypeId} {f0 f1 f2 : Field} {a : Option Addr} {len cap : Nat} {d : DataW H} {p : List MemPlace} (ht : P.underlying t = some (.slice e)) (he : P.underlying e = some (.struct #[f0, f1, f2]))
    (hone : oneCellFields P #[f0, f1, f2] = true) (hC : P.cellsOf e = 3) (h0 : P.underlying f0.type = some .string) (h1 : P.underlying f1.type = some (.int .i64)) (h2 : P.underlying f2.type = some (.int .i64)) (h : DataW.Trod enc P w base (fun _ => true) held t (.slice a len cap) d p) :
    ∃ (S : Nat → ByteArray) (T U : Nat → Int), CellsIn 0 w.heap.size w a (3 * len) (wkV S T U) ∧ (len ≤ 9223372036854775807 ∧ ∀ k, k < len → (S k).size ≤ 9223372036854775807) := by
  obtain ⟨V, hV, hm, hF⟩ := cells_open ht he hone hC h
  refine ⟨fun k => strOf (V (3 * k)), fun k => intOf (V (3 * k + 1)), fun k => intOf (V (3 * k + 2)), hV.cong (fun q hq => ?_), hm, fun k hk => ?_⟩
  rotate_left
  · obtain ⟨_, _, t0⟩ := hF k hk 0 f0 rfl
    have := str_size h0 t0
    simpa using this
  have hq' : q < 3 * len := hq
  have e : q = 3 * (q / 3) + q % 3 := by omega
  rcases (show q % 3 = 0 ∨ q % 3 = 1 ∨ q % 3 = 2 by omega) with hr | hr | hr
  · obtain ⟨_, _, t0⟩ := hF (q / 3) (by omega) 0 f0 rfl
    have := str_cell h0 t0
    unfold wkV; rw [if_pos hr]
    rw [hr, Nat.add_zero] at e
    dsimp only
    rw [show 3 * (q / 3) = q from e.symm]
    simp only [List.size_toArray, List.length_cons, List.length_nil, Nat.add_zero] at this
    rw [show (0 + 1 + 1 + 1) * (q / 3) = q from e.symm] at this
    exact this
  · obtain ⟨_, _, t1⟩ := hF (q / 3) (by omega) 1 f1 rfl
    have := int_cell h1 t1
    unfold wkV; rw [if_neg (by omega), if_pos hr]
    rw [hr] at e
    dsimp only
    rw [show 3 * (q / 3) + 1 = q from e.symm]
    simp only [List.size_toArray, List.length_cons, List.length_nil] at this
    rw [show (0 + 1 + 1 + 1) * (q / 3) + 1 = q from e.symm] at this
    exact this
  · obtain ⟨_, _, t2⟩ := hF (q / 3) (by omega) 2 f2 rfl
    have := int_cell h2 t2
    unfold wkV; rw [if_neg (by omega), if_neg (by omega)]
    rw [hr] at e
    dsimp only
    rw [show 3 * (q / 3) + 2 = q from e.symm]
    simp only [List.size_toArray, List.length_cons, List.length_nil] at this
    rw [show (0 + 1 + 1 + 1) * (q / 3) + 2 = q from e.symm] at this
    exact this
end
end Go.Proofs.Ytngeaojimehlbaa
