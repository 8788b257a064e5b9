/-
  Arguments opened: a track (a slice of sections and two numbers).
-/
import Derived.Test.YtaagfkldcdebcaaOr
namespace Go.Proofs.Ytaagfkldcdebcaa
open Go.ChangeShapes Go.WideShapes Go.Deep
open Go.RowKit (intOf)
set_option linter.unusedVariables false
set_option linter.unusedSimpArgs false

section
variable {H : Type} {enc : TypeId × Value → H} {P : Program} {w : World} {base : Nat} {held : Bool}
theorem track_open {r : Reach} {b0 : Nat} {t te : TypeId} {f0 f1 f2 g0 g1 : Field} {v : Value} {d : DataW H} {p : List MemPlace}
    (hs : P.underlying t = some (.struct #[f0, f1, f2])) (hone : oneCellFields P #[f0, f1, f2] = true) (hC : P.cellsOf t = 3)
    (h0 : P.underlying f0.type = some (.slice te)) (h1 : P.underlying f1.type = some (.int .i64)) (h2 : P.underlying f2.type = some (.int .i64))
    (he : P.underlying te = some (.struct #[g0, g1])) (hone' : oneCellFields P #[g0, g1] = true) (hC' : P.cellsOf te = 2) (e0 : P.underlying g0.type = some (.int .i64)) (e1 : P.underlying g1.type = some (.int .i64))
    (hv : Value.okWide P w r b0 t v) (h : DataW.Trod enc P w base (fun _ => true) held t v d p) :
    ∃ (a : Option Addr) (len cap : Nat) (S T : Nat → Int) (lf lu : Int), v = .agg #[.slice a len cap, .int .i64 lf, .int .i64 lu] ∧ CellsIn 0 w.heap.size w a (2 * len) (psV S T) ∧ len ≤ 9223372036854775807 := by
  obtain ⟨vs, n, rfl, hl, hF⟩ := agg_open hs hone hC hv h
  match vs, hl with
  | [u0, u1, u2], _ =>
    obtain ⟨y0, t0⟩ := hF 0 f0 u0 rfl rfl
    obtain ⟨y1, t1⟩ := hF 1 f1 u1 rfl rfl
    obtain ⟨y2, t2⟩ := hF 2 f2 u2 rfl rfl
    have i1 := int_cell h1 t1
    have i2 := int_cell h2 t2
    have hsl : ∃ a l c, u0 = .slice a l c := by
      rcases open_slice h0 t0 with ⟨hcs, _⟩ | ⟨x, l, c, m, n', D, Pl, hcs, _⟩
      · simp [Value.cells] at hcs
        exact ⟨_, _, _, hcs⟩
      · simp [Value.cells] at hcs
        exact ⟨_, _, _, hcs⟩
    obtain ⟨a, l, c, rfl⟩ := hsl
    obtain ⟨S, T, hCc, hm⟩ := pass_open (len := l) (cap := c) (d := y0.1) (p := y0.2) h0 he hone' hC' e0 e1 ⟨n, by simpa [Value.cells] using t0⟩
    exact ⟨a, l, c, S, T, intOf u1, intOf u2, by rw [← i1, ← i2], hCc, hm⟩
end
end Go.Proofs.Ytaagfkldcdebcaa
