/-
  Contracts: the walks of the law of the reader of motors.
-/
import Derived.Test.YthcmjnfenedpkaaDoorRl
namespace Go.Proofs.YthcmjnfenedpkaaDoor
open Go.RowKit
set_option linter.unusedVariables false
set_option linter.unusedSimpArgs false


set_option maxHeartbeats 1000000 in
theorem law_FnExactReadMotor (s : ByteArray) (w : World) (hs : s.size ≤ 9223372036854775807) (hT : Tabs w) (hM : MaxAt w) : Calls Tryd.prog 3 #[.string s] w fun e' w' => e' = .returned (.bool true) ∧ Below w.heap.size w w' := by
  by_cases h1 : s.size ≤ 1048576
  · obtain ⟨p, k, r, ok, hp⟩ := motor_some s
    have cs := fun W => spec_ReadMotor s p k r ok W h1 hp
    have ci := fun W h h' => impl_ReadMotor s p k r ok W h1 hp h h'
    have h2 : ¬ (1048576 : Int) < s.size := by omega
    clear hp
    go_enter Tryd.func3, Tryd.ntmps3
    go_wp2_with fail
    refine (cs _).mono ?_
    rintro e w1 ⟨rfl, hB1⟩
    have z1 := hB1.size
    go_wp2_with fail
    with_reducible refine (ci _ (hT.below (by first | go_grown | (repeat (first | exact hB1 | refine Below.alloc ?_ (by simp [World.setCell]; omega) _ | refine below_set ?_ (by omega))))) (hM.below (by first | go_grown | (repeat (first | exact hB1 | refine Below.alloc ?_ (by simp [World.setCell]; omega) _ | refine below_set ?_ (by omega)))))).mono ?_
    rintro e w2 ⟨rfl, hb2⟩
    have z2 : w1.heap.size < w2.heap.size := Nat.lt_of_lt_of_le (by first | omega | (simp; done) | (simp [World.setCell]; done) | (simp; omega) | (simp [World.setCell]; omega)) hb2.size
    have q0 : w2.cell? ⟨w1.heap.size, 0, none⟩ = some (.int .i64 p) := (hb2.cell (p := ⟨w1.heap.size, 0, none⟩) (by first | omega | (simp; done) | (simp [World.setCell]; done) | (simp; omega) | (simp [World.setCell]; omega))).trans (by go_cell)
    have q1 : w2.cell? ⟨w1.heap.size, 1, none⟩ = some (.int .i64 k) := (hb2.cell (p := ⟨w1.heap.size, 1, none⟩) (by first | omega | (simp; done) | (simp [World.setCell]; done) | (simp; omega) | (simp [World.setCell]; omega))).trans (by go_cell)
    have q2 : w2.cell? ⟨w1.heap.size, 2, none⟩ = some (.int .i64 r) := (hb2.cell (p := ⟨w1.heap.size, 2, none⟩) (by first | omega | (simp; done) | (simp [World.setCell]; done) | (simp; omega) | (simp [World.setCell]; omega))).trans (by go_cell)
    have hB2 : Below w.heap.size w w2 := Below.trans (by first | go_grown | (repeat (first | exact hB1 | refine Below.alloc ?_ (by simp [World.setCell]; omega) _ | refine below_set ?_ (by omega)))) (hb2.mono (by first | go_size | (simp; omega)))
    clear hb2
    go_wp2_with fail
    refine (laws_eqMotor_same p k r _).mono ?_
    rintro e w3 ⟨rfl, hb3⟩
    have hB3 : Below w.heap.size w w3 := Below.trans (by first | go_grown | (repeat (first | exact hB2 | refine Below.alloc ?_ (by simp [World.setCell]; omega) _ | refine below_set ?_ (by omega)))) (hb3.mono (by first | go_size | (simp; omega)))
    go_wp2
    go_returns
    exact ⟨rfl, hB3⟩
  · have h2 : (1048576 : Int) < s.size := by omega
    go_enter Tryd.func3, Tryd.ntmps3
    go_wp2
    go_returns
    exact ⟨rfl, Below.refl _ _⟩

end Go.Proofs.YthcmjnfenedpkaaDoor
