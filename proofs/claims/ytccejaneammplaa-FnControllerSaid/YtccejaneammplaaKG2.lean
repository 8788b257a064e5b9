/-
  Contracts: the events that are allowed.
-/
import Derived.Test.YtccejaneammplaaKN
import Derived.Test.YtccejaneammplaaKM
import Derived.Test.YtccejaneammplaaAp
import Derived.Test.YtccejaneammplaaPx
import Derived.Deep.DeepCutAuto
namespace Go.Proofs.Ytccejaneammplaa
open Go.RowKit
set_option linter.unusedVariables false
set_option linter.unusedSimpArgs false

theorem AppOf.row0 {w w0 w' : World} {v : Value} {L : List Int} (h : AppOf w0.heap.size w' v L) (h0 : Below w.heap.size w w0) (hb : Below w0.heap.size w0 w') : RetRow L w (.returned v) w' := by
  obtain ⟨a, c, rfl, ho⟩ := h.out
  exact ⟨a, c, rfl, ho.mono h0.size (Nat.le_refl _), h0.trans (hb.mono h0.size)⟩
theorem AppOf.low {w : World} {B B' : Nat} {v : Value} {L : List Int} (h : AppOf B w v L) (hb : B' ≤ B) : AppOf B' w v L :=
  ⟨h.1, h.2.imp id fun ⟨g, cap, cur, h1, h2, h3⟩ => ⟨g, cap, cur, h1, Nat.le_trans hb h2, h3⟩⟩

set_option maxHeartbeats 2000000 in
theorem impl_allowedEvents_app (m : Int) (o a b e : Bool) (w : World) : Calls Try.prog 21 #[.agg #[.int .i64 m, .bool o, .bool a, .bool b, .bool e]] w fun e' w' => ∃ v, e' = .returned v ∧ AppOf w.heap.size w' v (allowA ⟨m, o, a, b, e⟩ 9) ∧ Below w.heap.size w w' := by
  have kA := fun ev W => impl_isAllowed m o a b e ev W
  go_enter Try.func21, Try.ntmps21
  go_wp2
  (have Q0 : (w.alloc (Obj.cells #[.int .i64 m, .bool o, .bool a, .bool b, .bool e] 25)).cell? ⟨w.heap.size, 0, none⟩ = some (.int .i64 m) := (by go_simp); have Q1 : (w.alloc (Obj.cells #[.int .i64 m, .bool o, .bool a, .bool b, .bool e] 25)).cell? ⟨w.heap.size, 1, none⟩ = some (.bool o) := (by go_simp); have Q2 : (w.alloc (Obj.cells #[.int .i64 m, .bool o, .bool a, .bool b, .bool e] 25)).cell? ⟨w.heap.size, 2, none⟩ = some (.bool a) := (by go_simp); have Q3 : (w.alloc (Obj.cells #[.int .i64 m, .bool o, .bool a, .bool b, .bool e] 25)).cell? ⟨w.heap.size, 3, none⟩ = some (.bool b) := (by go_simp); have Q4 : (w.alloc (Obj.cells #[.int .i64 m, .bool o, .bool a, .bool b, .bool e] 25)).cell? ⟨w.heap.size, 4, none⟩ = some (.bool e) := (by go_simp); have Z5 : w.heap.size < (w.alloc (Obj.cells #[.int .i64 m, .bool o, .bool a, .bool b, .bool e] 25)).heap.size := (by first | omega | (simp; done) | (simp; omega)); have BB : Below w.heap.size w (w.alloc (Obj.cells #[.int .i64 m, .bool o, .bool a, .bool b, .bool e] 25)) := (by go_grown); generalize w.alloc (Obj.cells #[.int .i64 m, .bool o, .bool a, .bool b, .bool e] 25) = w2 at *)
  generalize hg : w.heap.size = g at *
  have HG := Lib.hid hg
  clear hg
  go_loopw [3, 4] (fun u i wr => ∃ j : Nat, j ≤ 9 ∧ i = .int .i64 ((j : Int) + 1) ∧ AppOf w2.heap.size wr u (allowA ⟨m, o, a, b, e⟩ j) ∧ Below w2.heap.size w2 wr) (fun _ i _ => (10 - intOf i).toNat)
  case atStart => exact ⟨0, by omega, rfl, AppOf.nil _ _, Below.refl _ _⟩
  case round =>
    obtain ⟨j, hj, rfl, hA, hB⟩ := hrel
    have hq := hB.size
    have hlen : (allowA ⟨m, o, a, b, e⟩ j).length ≤ 16777216 := Nat.le_trans (accB_len _ _ _) (by omega)
    replace Q0 := (hB.cell (p := ⟨g, 0, none⟩) (by first | exact Z0 | omega)).trans Q0
    replace Q1 := (hB.cell (p := ⟨g, 1, none⟩) (by first | exact Z0 | omega)).trans Q1
    replace Q2 := (hB.cell (p := ⟨g, 2, none⟩) (by first | exact Z0 | omega)).trans Q2
    replace Q3 := (hB.cell (p := ⟨g, 3, none⟩) (by first | exact Z0 | omega)).trans Q3
    replace Q4 := (hB.cell (p := ⟨g, 4, none⟩) (by first | exact Z0 | omega)).trans Q4
    by_cases hlt : j < 9
    · have kB := fun W => kA ((j : Int) + 1) W
      unfold allowA at *
      cases hv : allowed ⟨m, o, a, b, e⟩ ((j : Int) + 1)
      · have HS := Lib.hid (accB_no (q := fun j => allowed ⟨m, o, a, b, e⟩ ((j : Int) + 1)) (x := fun j => (j : Int) + 1) (j := j) hv)
        rw [hv] at kB
        clear hv kA
        generalize accB (fun j => allowed ⟨m, o, a, b, e⟩ ((j : Int) + 1)) (fun j => (j : Int) + 1) j = L at *
        go_wp2_with (go_at_call 24; (with_reducible refine (kB _).mono ?_); rintro e' w1 ⟨rfl, hb⟩; replace hA := hA.below hb; replace hB := hB.trans (hb.mono hq); replace hq := hB.size; clear hb)
        go_roundw
        case rel => exact ⟨j + 1, by omega, by go_num, by rw [HS.out]; exact hA, hB⟩
        case measure => simp [intOf]; omega
      · have HS := Lib.hid (accB_yes (q := fun j => allowed ⟨m, o, a, b, e⟩ ((j : Int) + 1)) (x := fun j => (j : Int) + 1) (j := j) hv)
        rw [hv] at kB
        clear hv kA
        generalize accB (fun j => allowed ⟨m, o, a, b, e⟩ ((j : Int) + 1)) (fun j => (j : Int) + 1) j = L at *
        go_wp2_with (first | (go_at_call 24; (with_reducible refine (kB _).mono ?_); rintro e' w1 ⟨rfl, hb⟩; replace hA := hA.below hb; replace hB := hB.trans (hb.mono hq); replace hq := hB.size; clear hb) | (at_builtin; refine app_int _ rfl _ _ rfl w2.heap.size _ _ rfl (hA.alloc _) w1.heap.size 1 ((j : Int) + 1) rfl (by go_cell) hlen (by simp; omega) ?_; intro v' w3 hA' hw1))
        go_roundw
        case rel => exact ⟨j + 1, by omega, by go_num, by rw [HS.out]; exact hA', (Below.alloc hB hq _).trans hw1⟩
        case measure => simp [intOf]; omega
    · obtain rfl : j = 9 := by omega
      go_wp2
      go_returns
      have h0 : Below w.heap.size w w2 := by rw [HG.out]; exact BB
      exact ⟨_, rfl, hA.low h0.size, h0.trans (hB.mono h0.size)⟩
theorem impl_allowedEvents (m : Int) (o a b e : Bool) (w : World) : Calls Try.prog 21 #[.agg #[.int .i64 m, .bool o, .bool a, .bool b, .bool e]] w (RetRow (allowA ⟨m, o, a, b, e⟩ 9) w) :=
  (impl_allowedEvents_app m o a b e w).mono fun e' w' ⟨v, he, hA, hB⟩ => by
    obtain ⟨a, c, rfl, ho⟩ := hA.out
    exact ⟨a, c, he, ho, hB⟩

set_option maxHeartbeats 1000000 in
theorem impl_AllowedEvents (m : Int) (o a b e : Bool) (w : World) : Calls Try.prog 6 #[.agg #[.int .i64 m, .bool o, .bool a, .bool b, .bool e]] w (RetInts (okL (inB m 0 4) (allowA ⟨m, o, a, b, e⟩ 9)) (okC (inB m 0 4) 1) w) := by
  have kv := fun W => impl_ValidControl m o a b e W
  have kl := fun W => impl_allowedEvents m o a b e W
  generalize allowA ⟨m, o, a, b, e⟩ 9 = L at *
  cases h : inB m 0 4
  · rw [h] at kv
    rw [okL_no, okC_no]
    go_enter Try.func6, Try.ntmps6
    go_wp2_with (go_at_call 20; (with_reducible refine (kv _).mono ?_); rintro e w' ⟨rfl, hb⟩; obtain ⟨hc, hf⟩ := bcell hb; have hz : w.heap.size < w'.heap.size := (by have := hb.size; (try simp at this); omega); have hB : Below w.heap.size w w' := Below.trans (by go_grown) (hb.mono (by go_size)))
    go_returns
    exact ret_none (by go_grown)
  · rw [h] at kv
    rw [okL_yes, okC_yes]
    go_enter Try.func6, Try.ntmps6
    go_wp2_with (first | (go_at_call 20; (with_reducible refine (kv _).mono ?_); rintro e w' ⟨rfl, hb⟩; obtain ⟨hc, hf⟩ := bcell hb; have hz : w.heap.size < w'.heap.size := (by have := hb.size; (try simp at this); omega); have hB : Below w.heap.size w w' := Below.trans (by go_grown) (hb.mono (by go_size))) | (go_at_call 21; (with_reducible refine (kl _).mono ?_); rintro e' w1 ⟨a1, c1, rfl, ho, hB1⟩))
    go_returns
    exact ⟨_, _, rfl, ho.mono (hB.size) (Nat.le_refl _), Below.trans (hB) (hB1.mono (hB.size))⟩

end Go.Proofs.Ytccejaneammplaa
