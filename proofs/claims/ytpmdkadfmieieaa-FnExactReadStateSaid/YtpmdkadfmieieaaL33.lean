/-
  The walk of the law of the reader of states.
-/
import Derived.Test.YtpmdkadfmieieaaRs
import Derived.Test.YtpmdkadfmieieaaKB
namespace Go.Proofs.Ytpmdkadfmieieaa
open Go.RowKit
set_option linter.unusedVariables false
set_option linter.unusedSimpArgs false


set_option maxHeartbeats 1000000 in
theorem law_FnExactReadState (s : ByteArray) (w : World) (hs : s.size ≤ 9223372036854775807) (hM : MaxAt w) : Calls Try.prog 3 #[.string s] w fun e' w' => e' = .returned (.bool true) ∧ Below w.heap.size w w' := by
  by_cases h1 : s.size ≤ 1048576
  · obtain ⟨m, o, a, b, e, ok, hp⟩ := state_some s
    have cs := fun W => spec_ReadState s m o a b e ok W h1 hp
    have ci := fun W h => impl_ReadState s m o a b e ok W h1 hp h
    have h2 : ¬ (1048576 : Int) < s.size := by omega
    clear hp
    go_enter Try.func3, Try.ntmps3
    go_wp2_with fail
    refine (cs _).mono ?_
    rintro e' w1 ⟨rfl, hB1⟩
    have z1 := hB1.size
    go_wp2_with fail
    with_reducible refine (ci _ (hM.below (by first | go_grown | (repeat (first | exact hB1 | refine Below.alloc ?_ (by simp [World.setCell]; omega) _ | refine below_set ?_ (by omega)))))).mono ?_
    rintro e' w2 ⟨rfl, hb2⟩
    have z2 : w1.heap.size < w2.heap.size := Nat.lt_of_lt_of_le (by first | omega | (simp; done) | (simp [World.setCell]; done) | (simp; omega) | (simp [World.setCell]; omega)) hb2.size
    have q0 : w2.cell? ⟨w1.heap.size, 0, none⟩ = some (.int .i64 m) := (hb2.cell (p := ⟨w1.heap.size, 0, none⟩) (by first | omega | (simp; done) | (simp [World.setCell]; done) | (simp; omega) | (simp [World.setCell]; omega))).trans (by go_cell)
    have q1 : w2.cell? ⟨w1.heap.size, 1, none⟩ = some (.bool o) := (hb2.cell (p := ⟨w1.heap.size, 1, none⟩) (by first | omega | (simp; done) | (simp [World.setCell]; done) | (simp; omega) | (simp [World.setCell]; omega))).trans (by go_cell)
    have q2 : w2.cell? ⟨w1.heap.size, 2, none⟩ = some (.bool a) := (hb2.cell (p := ⟨w1.heap.size, 2, none⟩) (by first | omega | (simp; done) | (simp [World.setCell]; done) | (simp; omega) | (simp [World.setCell]; omega))).trans (by go_cell)
    have q3 : w2.cell? ⟨w1.heap.size, 3, none⟩ = some (.bool b) := (hb2.cell (p := ⟨w1.heap.size, 3, none⟩) (by first | omega | (simp; done) | (simp [World.setCell]; done) | (simp; omega) | (simp [World.setCell]; omega))).trans (by go_cell)
    have q4 : w2.cell? ⟨w1.heap.size, 4, none⟩ = some (.bool e) := (hb2.cell (p := ⟨w1.heap.size, 4, none⟩) (by first | omega | (simp; done) | (simp [World.setCell]; done) | (simp; omega) | (simp [World.setCell]; omega))).trans (by go_cell)
    have hB2 : Below w.heap.size w w2 := Below.trans (by first | go_grown | (repeat (first | exact hB1 | refine Below.alloc ?_ (by simp [World.setCell]; omega) _ | refine below_set ?_ (by omega)))) (hb2.mono (by first | go_size | (simp; omega)))
    clear hb2
    go_wp2_with fail
    refine (laws_eqState_same m o a b e _).mono ?_
    rintro e' w3 ⟨rfl, hb3⟩
    have hB3 : Below w.heap.size w w3 := Below.trans (by first | go_grown | (repeat (first | exact hB2 | refine Below.alloc ?_ (by simp [World.setCell]; omega) _ | refine below_set ?_ (by omega)))) (hb3.mono (by first | go_size | (simp; omega)))
    go_wp2
    go_returns
    exact ⟨rfl, hB3⟩
  · have h2 : (1048576 : Int) < s.size := by omega
    go_enter Try.func3, Try.ntmps3
    go_wp2
    go_returns
    exact ⟨rfl, Below.refl _ _⟩

end Go.Proofs.Ytpmdkadfmieieaa
