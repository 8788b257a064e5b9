/-
  Contracts: brakes read by the program; the walks of the laws.
-/
import Derived.Test.YtdilenfhnanepaaDoorRd
import Derived.Test.YtdilenfhnanepaaDoorRe
namespace Go.Proofs.YtdilenfhnanepaaDoor
open Go.RowKit
set_option linter.unusedVariables false
set_option linter.unusedSimpArgs false


set_option maxHeartbeats 4000000 in
theorem impl_ReadBrake (s : ByteArray) (i j : Int) (ok : Bool) (w : World) (hs : s.size ≤ 1048576) (hp : BrakeIs s i j ok) (hT : Tabs w) (hM : MaxAt w) :
    Calls Tryd.prog 11 #[.string s] w fun e w' => e = .returned (.tuple #[.agg #[.int .i64 i, .int .i64 j], .bool ok]) ∧ Below w.heap.size w w' := by
  have hcs := cut_size s 43
  have kc := fun W h => strings_Cut_c s 43 W hs h
  have kA := fun W h => impl_ReadDecimal (cutA s 43) W (by omega) h
  have kB := fun W h => impl_ReadDecimal (cutB s 43) W (by omega) h
  have kt := fun W h => impl_BrakeText (numR (cutA s 43)) (numR (cutB s 43)) W h
  have kv := fun W => impl_ValidBrake (numR (cutA s 43)) (numR (cutB s 43)) W
  have HY := Lib.hid (fun h0 h => brake_impl hp h0 h)
  have HN := Lib.hid (fun h => brake_impl_no hp h)
  clear hp hcs
  cases he : validBrake (numR (cutA s 43)) (numR (cutB s 43))
  · obtain ⟨rfl, rfl, rfl⟩ := HN.out (.inl he)
    rw [he] at kv
    clear he
    clear HY HN
    generalize numR (cutA s 43) = P at *
    generalize numR (cutB s 43) = Q at *
    generalize numOk (cutA s 43) = OP at *
    generalize numOk (cutB s 43) = OQ at *
    generalize cutA s 43 = S1 at *
    generalize cutB s 43 = S2 at *
    go_enter Tryd.func11, Tryd.ntmps11
    go_wp2_with fail
    with_reducible refine (kc _ (hM.below (by go_grown))).mono ?_
    rintro e w1 ⟨⟨bo, rfl⟩, hb1⟩
    have q10 : w1.cell? ⟨w.heap.size, 0, none⟩ = some (.int .i64 0) := (hb1.cell (p := ⟨w.heap.size, 0, none⟩) (by first | omega | (simp; done) | (simp [World.setCell]; done) | (simp; omega) | (simp [World.setCell]; omega))).trans (by go_cell)
    have g10 : w1.frozen? ⟨w.heap.size, 0, none⟩ = false := (hb1.frozen (p := ⟨w.heap.size, 0, none⟩) (by first | omega | (simp; done) | (simp [World.setCell]; done) | (simp; omega) | (simp [World.setCell]; omega))).trans (by go_simp)
    have q11 : w1.cell? ⟨w.heap.size, 1, none⟩ = some (.int .i64 0) := (hb1.cell (p := ⟨w.heap.size, 1, none⟩) (by first | omega | (simp; done) | (simp [World.setCell]; done) | (simp; omega) | (simp [World.setCell]; omega))).trans (by go_cell)
    have g11 : w1.frozen? ⟨w.heap.size, 1, none⟩ = false := (hb1.frozen (p := ⟨w.heap.size, 1, none⟩) (by first | omega | (simp; done) | (simp [World.setCell]; done) | (simp; omega) | (simp [World.setCell]; omega))).trans (by go_simp)
    have z0 : w.heap.size < w1.heap.size := Nat.lt_of_lt_of_le (by simp) hb1.size
    have hB1 : Below w.heap.size w w1 := Below.trans (by go_grown) (hb1.mono (by go_size))
    clear hb1
    go_wp2_with fail
    with_reducible refine (kA _ (hT.below (by first | go_grown | (repeat (first | exact hB1 | refine Below.alloc ?_ (by simp [World.setCell]; omega) _ | refine below_set ?_ (by omega)))))).mono ?_
    rintro e w2 ⟨rfl, hb2⟩
    have z1 : w1.heap.size < w2.heap.size := Nat.lt_of_lt_of_le (by simp) hb2.size
    have z2 : w.heap.size < w2.heap.size := by omega
    have q20 : w2.cell? ⟨w.heap.size, 0, none⟩ = some (.int .i64 0) := (hb2.cell (p := ⟨w.heap.size, 0, none⟩) (by first | omega | (simp; done) | (simp [World.setCell]; done) | (simp; omega) | (simp [World.setCell]; omega))).trans (by go_cell)
    have g20 : w2.frozen? ⟨w.heap.size, 0, none⟩ = false := (hb2.frozen (p := ⟨w.heap.size, 0, none⟩) (by first | omega | (simp; done) | (simp [World.setCell]; done) | (simp; omega) | (simp [World.setCell]; omega))).trans (by go_simp)
    have q21 : w2.cell? ⟨w.heap.size, 1, none⟩ = some (.int .i64 0) := (hb2.cell (p := ⟨w.heap.size, 1, none⟩) (by first | omega | (simp; done) | (simp [World.setCell]; done) | (simp; omega) | (simp [World.setCell]; omega))).trans (by go_cell)
    have g21 : w2.frozen? ⟨w.heap.size, 1, none⟩ = false := (hb2.frozen (p := ⟨w.heap.size, 1, none⟩) (by first | omega | (simp; done) | (simp [World.setCell]; done) | (simp; omega) | (simp [World.setCell]; omega))).trans (by go_simp)
    have q22 : w2.cell? ⟨w1.heap.size, 0, none⟩ = some (.int .i64 0) := (hb2.cell (p := ⟨w1.heap.size, 0, none⟩) (by first | omega | (simp; done) | (simp [World.setCell]; done) | (simp; omega) | (simp [World.setCell]; omega))).trans (by go_cell)
    have g22 : w2.frozen? ⟨w1.heap.size, 0, none⟩ = false := (hb2.frozen (p := ⟨w1.heap.size, 0, none⟩) (by first | omega | (simp; done) | (simp [World.setCell]; done) | (simp; omega) | (simp [World.setCell]; omega))).trans (by go_simp)
    have q23 : w2.cell? ⟨w1.heap.size, 1, none⟩ = some (.int .i64 0) := (hb2.cell (p := ⟨w1.heap.size, 1, none⟩) (by first | omega | (simp; done) | (simp [World.setCell]; done) | (simp; omega) | (simp [World.setCell]; omega))).trans (by go_cell)
    have g23 : w2.frozen? ⟨w1.heap.size, 1, none⟩ = false := (hb2.frozen (p := ⟨w1.heap.size, 1, none⟩) (by first | omega | (simp; done) | (simp [World.setCell]; done) | (simp; omega) | (simp [World.setCell]; omega))).trans (by go_simp)
    have hB2 : Below w.heap.size w w2 := Below.trans (by first | go_grown | (repeat (first | exact hB1 | refine Below.alloc ?_ (by simp [World.setCell]; omega) _ | refine below_set ?_ (by omega)))) (hb2.mono (by go_size))
    clear hb2 q10 q11 g10 g11
    go_wp2_with fail
    with_reducible refine (kB _ (hT.below (by first | go_grown | (repeat (first | exact hB2 | refine Below.alloc ?_ (by simp [World.setCell]; omega) _ | refine below_set ?_ (by omega)))))).mono ?_
    rintro e w3 ⟨rfl, hb3⟩
    have z3 : w1.heap.size < w3.heap.size := Nat.lt_of_lt_of_le (by first | omega | (simp; done) | (simp [World.setCell]; done) | (simp; omega) | (simp [World.setCell]; omega)) hb3.size
    have z4 : w.heap.size < w3.heap.size := by omega
    have q30 : w3.cell? ⟨w.heap.size, 0, none⟩ = some (.int .i64 0) := (hb3.cell (p := ⟨w.heap.size, 0, none⟩) (by first | omega | (simp; done) | (simp [World.setCell]; done) | (simp; omega) | (simp [World.setCell]; omega))).trans (by go_cell)
    have g30 : w3.frozen? ⟨w.heap.size, 0, none⟩ = false := (hb3.frozen (p := ⟨w.heap.size, 0, none⟩) (by first | omega | (simp; done) | (simp [World.setCell]; done) | (simp; omega) | (simp [World.setCell]; omega))).trans (by go_simp)
    have q31 : w3.cell? ⟨w.heap.size, 1, none⟩ = some (.int .i64 0) := (hb3.cell (p := ⟨w.heap.size, 1, none⟩) (by first | omega | (simp; done) | (simp [World.setCell]; done) | (simp; omega) | (simp [World.setCell]; omega))).trans (by go_cell)
    have g31 : w3.frozen? ⟨w.heap.size, 1, none⟩ = false := (hb3.frozen (p := ⟨w.heap.size, 1, none⟩) (by first | omega | (simp; done) | (simp [World.setCell]; done) | (simp; omega) | (simp [World.setCell]; omega))).trans (by go_simp)
    have q32 : w3.cell? ⟨w1.heap.size, 0, none⟩ = some (.int .i64 P) := (hb3.cell (p := ⟨w1.heap.size, 0, none⟩) (by first | omega | (simp; done) | (simp [World.setCell]; done) | (simp; omega) | (simp [World.setCell]; omega))).trans (by go_cell)
    have g32 : w3.frozen? ⟨w1.heap.size, 0, none⟩ = false := (hb3.frozen (p := ⟨w1.heap.size, 0, none⟩) (by first | omega | (simp; done) | (simp [World.setCell]; done) | (simp; omega) | (simp [World.setCell]; omega))).trans (by go_simp)
    have q33 : w3.cell? ⟨w1.heap.size, 1, none⟩ = some (.int .i64 0) := (hb3.cell (p := ⟨w1.heap.size, 1, none⟩) (by first | omega | (simp; done) | (simp [World.setCell]; done) | (simp; omega) | (simp [World.setCell]; omega))).trans (by go_cell)
    have g33 : w3.frozen? ⟨w1.heap.size, 1, none⟩ = false := (hb3.frozen (p := ⟨w1.heap.size, 1, none⟩) (by first | omega | (simp; done) | (simp [World.setCell]; done) | (simp; omega) | (simp [World.setCell]; omega))).trans (by go_simp)
    have hB3 : Below w.heap.size w w3 := Below.trans (by first | go_grown | (repeat (first | exact hB2 | refine Below.alloc ?_ (by simp [World.setCell]; omega) _ | refine below_set ?_ (by omega)))) (hb3.mono (by go_size))
    clear hb3 q20 g20 q21 g21 q22 g22 q23 g23
    go_wp2_with fail
    with_reducible refine (kv _).mono ?_
    rintro e w4 ⟨rfl, hb4⟩
    have za4 : w1.heap.size < w4.heap.size := Nat.lt_of_lt_of_le (by first | omega | (simp; done) | (simp [World.setCell]; done) | (simp; omega) | (simp [World.setCell]; omega)) hb4.size
    have zb4 : w.heap.size < w4.heap.size := by omega
    have q40 : w4.cell? ⟨w.heap.size, 0, none⟩ = some (.int .i64 0) := (hb4.cell (p := ⟨w.heap.size, 0, none⟩) (by first | omega | (simp; done) | (simp [World.setCell]; done) | (simp; omega) | (simp [World.setCell]; omega))).trans (by go_cell)
    have g40 : w4.frozen? ⟨w.heap.size, 0, none⟩ = false := (hb4.frozen (p := ⟨w.heap.size, 0, none⟩) (by first | omega | (simp; done) | (simp [World.setCell]; done) | (simp; omega) | (simp [World.setCell]; omega))).trans (by go_simp)
    have q41 : w4.cell? ⟨w.heap.size, 1, none⟩ = some (.int .i64 0) := (hb4.cell (p := ⟨w.heap.size, 1, none⟩) (by first | omega | (simp; done) | (simp [World.setCell]; done) | (simp; omega) | (simp [World.setCell]; omega))).trans (by go_cell)
    have g41 : w4.frozen? ⟨w.heap.size, 1, none⟩ = false := (hb4.frozen (p := ⟨w.heap.size, 1, none⟩) (by first | omega | (simp; done) | (simp [World.setCell]; done) | (simp; omega) | (simp [World.setCell]; omega))).trans (by go_simp)
    have q42 : w4.cell? ⟨w1.heap.size, 0, none⟩ = some (.int .i64 P) := (hb4.cell (p := ⟨w1.heap.size, 0, none⟩) (by first | omega | (simp; done) | (simp [World.setCell]; done) | (simp; omega) | (simp [World.setCell]; omega))).trans (by go_cell)
    have g42 : w4.frozen? ⟨w1.heap.size, 0, none⟩ = false := (hb4.frozen (p := ⟨w1.heap.size, 0, none⟩) (by first | omega | (simp; done) | (simp [World.setCell]; done) | (simp; omega) | (simp [World.setCell]; omega))).trans (by go_simp)
    have q43 : w4.cell? ⟨w1.heap.size, 1, none⟩ = some (.int .i64 Q) := (hb4.cell (p := ⟨w1.heap.size, 1, none⟩) (by first | omega | (simp; done) | (simp [World.setCell]; done) | (simp; omega) | (simp [World.setCell]; omega))).trans (by go_cell)
    have g43 : w4.frozen? ⟨w1.heap.size, 1, none⟩ = false := (hb4.frozen (p := ⟨w1.heap.size, 1, none⟩) (by first | omega | (simp; done) | (simp [World.setCell]; done) | (simp; omega) | (simp [World.setCell]; omega))).trans (by go_simp)
    have hB4 : Below w.heap.size w w4 := Below.trans (by first | go_grown | (repeat (first | exact hB3 | refine Below.alloc ?_ (by simp [World.setCell]; omega) _ | refine below_set ?_ (by omega)))) (hb4.mono (by go_size))
    clear hb4
    go_wp2_with fail
    refine bodyPost_ret (by simp [results, Tryd.results11, go_sem, *]; try rfl) rfl ?_
    first
      | exact ⟨rfl, (by first | go_grown | (repeat (first | exact hB5 | refine Below.alloc ?_ (by simp [World.setCell]; omega) _ | refine below_set ?_ (by omega))))⟩
      | exact ⟨rfl, (by first | go_grown | (repeat (first | exact hB4 | refine Below.alloc ?_ (by simp [World.setCell]; omega) _ | refine below_set ?_ (by omega))))⟩
      | exact ⟨rfl, (by first | go_grown | (repeat (first | exact hB3 | refine Below.alloc ?_ (by simp [World.setCell]; omega) _ | refine below_set ?_ (by omega))))⟩
  · rw [he] at kv
    by_cases ht : brakeText (numR (cutA s 43)) (numR (cutB s 43)) = s
    · have he3 := ba_eq ht
      obtain ⟨rfl, rfl, rfl⟩ := HY.out he ht
      generalize brakeText (numR (cutA s 43)) (numR (cutB s 43)) = T at *
      clear ht he
      clear HY HN
      generalize numR (cutA s 43) = P at *
      generalize numR (cutB s 43) = Q at *
      generalize numOk (cutA s 43) = OP at *
      generalize numOk (cutB s 43) = OQ at *
      generalize cutA s 43 = S1 at *
      generalize cutB s 43 = S2 at *
      go_enter Tryd.func11, Tryd.ntmps11
      go_wp2_with fail
      with_reducible refine (kc _ (hM.below (by go_grown))).mono ?_
      rintro e w1 ⟨⟨bo, rfl⟩, hb1⟩
      have q10 : w1.cell? ⟨w.heap.size, 0, none⟩ = some (.int .i64 0) := (hb1.cell (p := ⟨w.heap.size, 0, none⟩) (by first | omega | (simp; done) | (simp [World.setCell]; done) | (simp; omega) | (simp [World.setCell]; omega))).trans (by go_cell)
      have g10 : w1.frozen? ⟨w.heap.size, 0, none⟩ = false := (hb1.frozen (p := ⟨w.heap.size, 0, none⟩) (by first | omega | (simp; done) | (simp [World.setCell]; done) | (simp; omega) | (simp [World.setCell]; omega))).trans (by go_simp)
      have q11 : w1.cell? ⟨w.heap.size, 1, none⟩ = some (.int .i64 0) := (hb1.cell (p := ⟨w.heap.size, 1, none⟩) (by first | omega | (simp; done) | (simp [World.setCell]; done) | (simp; omega) | (simp [World.setCell]; omega))).trans (by go_cell)
      have g11 : w1.frozen? ⟨w.heap.size, 1, none⟩ = false := (hb1.frozen (p := ⟨w.heap.size, 1, none⟩) (by first | omega | (simp; done) | (simp [World.setCell]; done) | (simp; omega) | (simp [World.setCell]; omega))).trans (by go_simp)
      have z0 : w.heap.size < w1.heap.size := Nat.lt_of_lt_of_le (by simp) hb1.size
      have hB1 : Below w.heap.size w w1 := Below.trans (by go_grown) (hb1.mono (by go_size))
      clear hb1
      go_wp2_with fail
      with_reducible refine (kA _ (hT.below (by first | go_grown | (repeat (first | exact hB1 | refine Below.alloc ?_ (by simp [World.setCell]; omega) _ | refine below_set ?_ (by omega)))))).mono ?_
      rintro e w2 ⟨rfl, hb2⟩
      have z1 : w1.heap.size < w2.heap.size := Nat.lt_of_lt_of_le (by simp) hb2.size
      have z2 : w.heap.size < w2.heap.size := by omega
      have q20 : w2.cell? ⟨w.heap.size, 0, none⟩ = some (.int .i64 0) := (hb2.cell (p := ⟨w.heap.size, 0, none⟩) (by first | omega | (simp; done) | (simp [World.setCell]; done) | (simp; omega) | (simp [World.setCell]; omega))).trans (by go_cell)
      have g20 : w2.frozen? ⟨w.heap.size, 0, none⟩ = false := (hb2.frozen (p := ⟨w.heap.size, 0, none⟩) (by first | omega | (simp; done) | (simp [World.setCell]; done) | (simp; omega) | (simp [World.setCell]; omega))).trans (by go_simp)
      have q21 : w2.cell? ⟨w.heap.size, 1, none⟩ = some (.int .i64 0) := (hb2.cell (p := ⟨w.heap.size, 1, none⟩) (by first | omega | (simp; done) | (simp [World.setCell]; done) | (simp; omega) | (simp [World.setCell]; omega))).trans (by go_cell)
      have g21 : w2.frozen? ⟨w.heap.size, 1, none⟩ = false := (hb2.frozen (p := ⟨w.heap.size, 1, none⟩) (by first | omega | (simp; done) | (simp [World.setCell]; done) | (simp; omega) | (simp [World.setCell]; omega))).trans (by go_simp)
      have q22 : w2.cell? ⟨w1.heap.size, 0, none⟩ = some (.int .i64 0) := (hb2.cell (p := ⟨w1.heap.size, 0, none⟩) (by first | omega | (simp; done) | (simp [World.setCell]; done) | (simp; omega) | (simp [World.setCell]; omega))).trans (by go_cell)
      have g22 : w2.frozen? ⟨w1.heap.size, 0, none⟩ = false := (hb2.frozen (p := ⟨w1.heap.size, 0, none⟩) (by first | omega | (simp; done) | (simp [World.setCell]; done) | (simp; omega) | (simp [World.setCell]; omega))).trans (by go_simp)
      have q23 : w2.cell? ⟨w1.heap.size, 1, none⟩ = some (.int .i64 0) := (hb2.cell (p := ⟨w1.heap.size, 1, none⟩) (by first | omega | (simp; done) | (simp [World.setCell]; done) | (simp; omega) | (simp [World.setCell]; omega))).trans (by go_cell)
      have g23 : w2.frozen? ⟨w1.heap.size, 1, none⟩ = false := (hb2.frozen (p := ⟨w1.heap.size, 1, none⟩) (by first | omega | (simp; done) | (simp [World.setCell]; done) | (simp; omega) | (simp [World.setCell]; omega))).trans (by go_simp)
      have hB2 : Below w.heap.size w w2 := Below.trans (by first | go_grown | (repeat (first | exact hB1 | refine Below.alloc ?_ (by simp [World.setCell]; omega) _ | refine below_set ?_ (by omega)))) (hb2.mono (by go_size))
      clear hb2 q10 q11 g10 g11
      go_wp2_with fail
      with_reducible refine (kB _ (hT.below (by first | go_grown | (repeat (first | exact hB2 | refine Below.alloc ?_ (by simp [World.setCell]; omega) _ | refine below_set ?_ (by omega)))))).mono ?_
      rintro e w3 ⟨rfl, hb3⟩
      have z3 : w1.heap.size < w3.heap.size := Nat.lt_of_lt_of_le (by first | omega | (simp; done) | (simp [World.setCell]; done) | (simp; omega) | (simp [World.setCell]; omega)) hb3.size
      have z4 : w.heap.size < w3.heap.size := by omega
      have q30 : w3.cell? ⟨w.heap.size, 0, none⟩ = some (.int .i64 0) := (hb3.cell (p := ⟨w.heap.size, 0, none⟩) (by first | omega | (simp; done) | (simp [World.setCell]; done) | (simp; omega) | (simp [World.setCell]; omega))).trans (by go_cell)
      have g30 : w3.frozen? ⟨w.heap.size, 0, none⟩ = false := (hb3.frozen (p := ⟨w.heap.size, 0, none⟩) (by first | omega | (simp; done) | (simp [World.setCell]; done) | (simp; omega) | (simp [World.setCell]; omega))).trans (by go_simp)
      have q31 : w3.cell? ⟨w.heap.size, 1, none⟩ = some (.int .i64 0) := (hb3.cell (p := ⟨w.heap.size, 1, none⟩) (by first | omega | (simp; done) | (simp [World.setCell]; done) | (simp; omega) | (simp [World.setCell]; omega))).trans (by go_cell)
      have g31 : w3.frozen? ⟨w.heap.size, 1, none⟩ = false := (hb3.frozen (p := ⟨w.heap.size, 1, none⟩) (by first | omega | (simp; done) | (simp [World.setCell]; done) | (simp; omega) | (simp [World.setCell]; omega))).trans (by go_simp)
      have q32 : w3.cell? ⟨w1.heap.size, 0, none⟩ = some (.int .i64 P) := (hb3.cell (p := ⟨w1.heap.size, 0, none⟩) (by first | omega | (simp; done) | (simp [World.setCell]; done) | (simp; omega) | (simp [World.setCell]; omega))).trans (by go_cell)
      have g32 : w3.frozen? ⟨w1.heap.size, 0, none⟩ = false := (hb3.frozen (p := ⟨w1.heap.size, 0, none⟩) (by first | omega | (simp; done) | (simp [World.setCell]; done) | (simp; omega) | (simp [World.setCell]; omega))).trans (by go_simp)
      have q33 : w3.cell? ⟨w1.heap.size, 1, none⟩ = some (.int .i64 0) := (hb3.cell (p := ⟨w1.heap.size, 1, none⟩) (by first | omega | (simp; done) | (simp [World.setCell]; done) | (simp; omega) | (simp [World.setCell]; omega))).trans (by go_cell)
      have g33 : w3.frozen? ⟨w1.heap.size, 1, none⟩ = false := (hb3.frozen (p := ⟨w1.heap.size, 1, none⟩) (by first | omega | (simp; done) | (simp [World.setCell]; done) | (simp; omega) | (simp [World.setCell]; omega))).trans (by go_simp)
      have hB3 : Below w.heap.size w w3 := Below.trans (by first | go_grown | (repeat (first | exact hB2 | refine Below.alloc ?_ (by simp [World.setCell]; omega) _ | refine below_set ?_ (by omega)))) (hb3.mono (by go_size))
      clear hb3 q20 g20 q21 g21 q22 g22 q23 g23
      go_wp2_with fail
      with_reducible refine (kv _).mono ?_
      rintro e w4 ⟨rfl, hb4⟩
      have za4 : w1.heap.size < w4.heap.size := Nat.lt_of_lt_of_le (by first | omega | (simp; done) | (simp [World.setCell]; done) | (simp; omega) | (simp [World.setCell]; omega)) hb4.size
      have zb4 : w.heap.size < w4.heap.size := by omega
      have q40 : w4.cell? ⟨w.heap.size, 0, none⟩ = some (.int .i64 0) := (hb4.cell (p := ⟨w.heap.size, 0, none⟩) (by first | omega | (simp; done) | (simp [World.setCell]; done) | (simp; omega) | (simp [World.setCell]; omega))).trans (by go_cell)
      have g40 : w4.frozen? ⟨w.heap.size, 0, none⟩ = false := (hb4.frozen (p := ⟨w.heap.size, 0, none⟩) (by first | omega | (simp; done) | (simp [World.setCell]; done) | (simp; omega) | (simp [World.setCell]; omega))).trans (by go_simp)
      have q41 : w4.cell? ⟨w.heap.size, 1, none⟩ = some (.int .i64 0) := (hb4.cell (p := ⟨w.heap.size, 1, none⟩) (by first | omega | (simp; done) | (simp [World.setCell]; done) | (simp; omega) | (simp [World.setCell]; omega))).trans (by go_cell)
      have g41 : w4.frozen? ⟨w.heap.size, 1, none⟩ = false := (hb4.frozen (p := ⟨w.heap.size, 1, none⟩) (by first | omega | (simp; done) | (simp [World.setCell]; done) | (simp; omega) | (simp [World.setCell]; omega))).trans (by go_simp)
      have q42 : w4.cell? ⟨w1.heap.size, 0, none⟩ = some (.int .i64 P) := (hb4.cell (p := ⟨w1.heap.size, 0, none⟩) (by first | omega | (simp; done) | (simp [World.setCell]; done) | (simp; omega) | (simp [World.setCell]; omega))).trans (by go_cell)
      have g42 : w4.frozen? ⟨w1.heap.size, 0, none⟩ = false := (hb4.frozen (p := ⟨w1.heap.size, 0, none⟩) (by first | omega | (simp; done) | (simp [World.setCell]; done) | (simp; omega) | (simp [World.setCell]; omega))).trans (by go_simp)
      have q43 : w4.cell? ⟨w1.heap.size, 1, none⟩ = some (.int .i64 Q) := (hb4.cell (p := ⟨w1.heap.size, 1, none⟩) (by first | omega | (simp; done) | (simp [World.setCell]; done) | (simp; omega) | (simp [World.setCell]; omega))).trans (by go_cell)
      have g43 : w4.frozen? ⟨w1.heap.size, 1, none⟩ = false := (hb4.frozen (p := ⟨w1.heap.size, 1, none⟩) (by first | omega | (simp; done) | (simp [World.setCell]; done) | (simp; omega) | (simp [World.setCell]; omega))).trans (by go_simp)
      have hB4 : Below w.heap.size w w4 := Below.trans (by first | go_grown | (repeat (first | exact hB3 | refine Below.alloc ?_ (by simp [World.setCell]; omega) _ | refine below_set ?_ (by omega)))) (hb4.mono (by go_size))
      clear hb4
      go_wp2_with fail
      with_reducible refine (kt _ (hT.below (by first | go_grown | (repeat (first | exact hB4 | refine Below.alloc ?_ (by simp [World.setCell]; omega) _ | refine below_set ?_ (by omega))))).pow).mono ?_
      rintro e w5 ⟨rfl, hb5⟩
      have za5 : w1.heap.size < w5.heap.size := Nat.lt_of_lt_of_le (by first | omega | (simp; done) | (simp [World.setCell]; done) | (simp; omega) | (simp [World.setCell]; omega)) hb5.size
      have zb5 : w.heap.size < w5.heap.size := by omega
      have q50 : w5.cell? ⟨w.heap.size, 0, none⟩ = some (.int .i64 0) := (hb5.cell (p := ⟨w.heap.size, 0, none⟩) (by first | omega | (simp; done) | (simp [World.setCell]; done) | (simp; omega) | (simp [World.setCell]; omega))).trans (by go_cell)
      have g50 : w5.frozen? ⟨w.heap.size, 0, none⟩ = false := (hb5.frozen (p := ⟨w.heap.size, 0, none⟩) (by first | omega | (simp; done) | (simp [World.setCell]; done) | (simp; omega) | (simp [World.setCell]; omega))).trans (by go_simp)
      have q51 : w5.cell? ⟨w.heap.size, 1, none⟩ = some (.int .i64 0) := (hb5.cell (p := ⟨w.heap.size, 1, none⟩) (by first | omega | (simp; done) | (simp [World.setCell]; done) | (simp; omega) | (simp [World.setCell]; omega))).trans (by go_cell)
      have g51 : w5.frozen? ⟨w.heap.size, 1, none⟩ = false := (hb5.frozen (p := ⟨w.heap.size, 1, none⟩) (by first | omega | (simp; done) | (simp [World.setCell]; done) | (simp; omega) | (simp [World.setCell]; omega))).trans (by go_simp)
      have q52 : w5.cell? ⟨w1.heap.size, 0, none⟩ = some (.int .i64 P) := (hb5.cell (p := ⟨w1.heap.size, 0, none⟩) (by first | omega | (simp; done) | (simp [World.setCell]; done) | (simp; omega) | (simp [World.setCell]; omega))).trans (by go_cell)
      have g52 : w5.frozen? ⟨w1.heap.size, 0, none⟩ = false := (hb5.frozen (p := ⟨w1.heap.size, 0, none⟩) (by first | omega | (simp; done) | (simp [World.setCell]; done) | (simp; omega) | (simp [World.setCell]; omega))).trans (by go_simp)
      have q53 : w5.cell? ⟨w1.heap.size, 1, none⟩ = some (.int .i64 Q) := (hb5.cell (p := ⟨w1.heap.size, 1, none⟩) (by first | omega | (simp; done) | (simp [World.setCell]; done) | (simp; omega) | (simp [World.setCell]; omega))).trans (by go_cell)
      have g53 : w5.frozen? ⟨w1.heap.size, 1, none⟩ = false := (hb5.frozen (p := ⟨w1.heap.size, 1, none⟩) (by first | omega | (simp; done) | (simp [World.setCell]; done) | (simp; omega) | (simp [World.setCell]; omega))).trans (by go_simp)
      have hB5 : Below w.heap.size w w5 := Below.trans (by first | go_grown | (repeat (first | exact hB4 | refine Below.alloc ?_ (by simp [World.setCell]; omega) _ | refine below_set ?_ (by omega)))) (hb5.mono (by go_size))
      clear hb5
      go_wp2_with fail
      refine bodyPost_ret (by simp [results, Tryd.results11, go_sem, *]; try rfl) rfl ?_
      first
        | exact ⟨rfl, (by first | go_grown | (repeat (first | exact hB5 | refine Below.alloc ?_ (by simp [World.setCell]; omega) _ | refine below_set ?_ (by omega))))⟩
        | exact ⟨rfl, (by first | go_grown | (repeat (first | exact hB4 | refine Below.alloc ?_ (by simp [World.setCell]; omega) _ | refine below_set ?_ (by omega))))⟩
        | exact ⟨rfl, (by first | go_grown | (repeat (first | exact hB3 | refine Below.alloc ?_ (by simp [World.setCell]; omega) _ | refine below_set ?_ (by omega))))⟩
    · have he3 := ba_ne ht
      obtain ⟨rfl, rfl, rfl⟩ := HN.out (.inr ht)
      generalize brakeText (numR (cutA s 43)) (numR (cutB s 43)) = T at *
      clear ht he
      clear HY HN
      generalize numR (cutA s 43) = P at *
      generalize numR (cutB s 43) = Q at *
      generalize numOk (cutA s 43) = OP at *
      generalize numOk (cutB s 43) = OQ at *
      generalize cutA s 43 = S1 at *
      generalize cutB s 43 = S2 at *
      go_enter Tryd.func11, Tryd.ntmps11
      go_wp2_with fail
      with_reducible refine (kc _ (hM.below (by go_grown))).mono ?_
      rintro e w1 ⟨⟨bo, rfl⟩, hb1⟩
      have q10 : w1.cell? ⟨w.heap.size, 0, none⟩ = some (.int .i64 0) := (hb1.cell (p := ⟨w.heap.size, 0, none⟩) (by first | omega | (simp; done) | (simp [World.setCell]; done) | (simp; omega) | (simp [World.setCell]; omega))).trans (by go_cell)
      have g10 : w1.frozen? ⟨w.heap.size, 0, none⟩ = false := (hb1.frozen (p := ⟨w.heap.size, 0, none⟩) (by first | omega | (simp; done) | (simp [World.setCell]; done) | (simp; omega) | (simp [World.setCell]; omega))).trans (by go_simp)
      have q11 : w1.cell? ⟨w.heap.size, 1, none⟩ = some (.int .i64 0) := (hb1.cell (p := ⟨w.heap.size, 1, none⟩) (by first | omega | (simp; done) | (simp [World.setCell]; done) | (simp; omega) | (simp [World.setCell]; omega))).trans (by go_cell)
      have g11 : w1.frozen? ⟨w.heap.size, 1, none⟩ = false := (hb1.frozen (p := ⟨w.heap.size, 1, none⟩) (by first | omega | (simp; done) | (simp [World.setCell]; done) | (simp; omega) | (simp [World.setCell]; omega))).trans (by go_simp)
      have z0 : w.heap.size < w1.heap.size := Nat.lt_of_lt_of_le (by simp) hb1.size
      have hB1 : Below w.heap.size w w1 := Below.trans (by go_grown) (hb1.mono (by go_size))
      clear hb1
      go_wp2_with fail
      with_reducible refine (kA _ (hT.below (by first | go_grown | (repeat (first | exact hB1 | refine Below.alloc ?_ (by simp [World.setCell]; omega) _ | refine below_set ?_ (by omega)))))).mono ?_
      rintro e w2 ⟨rfl, hb2⟩
      have z1 : w1.heap.size < w2.heap.size := Nat.lt_of_lt_of_le (by simp) hb2.size
      have z2 : w.heap.size < w2.heap.size := by omega
      have q20 : w2.cell? ⟨w.heap.size, 0, none⟩ = some (.int .i64 0) := (hb2.cell (p := ⟨w.heap.size, 0, none⟩) (by first | omega | (simp; done) | (simp [World.setCell]; done) | (simp; omega) | (simp [World.setCell]; omega))).trans (by go_cell)
      have g20 : w2.frozen? ⟨w.heap.size, 0, none⟩ = false := (hb2.frozen (p := ⟨w.heap.size, 0, none⟩) (by first | omega | (simp; done) | (simp [World.setCell]; done) | (simp; omega) | (simp [World.setCell]; omega))).trans (by go_simp)
      have q21 : w2.cell? ⟨w.heap.size, 1, none⟩ = some (.int .i64 0) := (hb2.cell (p := ⟨w.heap.size, 1, none⟩) (by first | omega | (simp; done) | (simp [World.setCell]; done) | (simp; omega) | (simp [World.setCell]; omega))).trans (by go_cell)
      have g21 : w2.frozen? ⟨w.heap.size, 1, none⟩ = false := (hb2.frozen (p := ⟨w.heap.size, 1, none⟩) (by first | omega | (simp; done) | (simp [World.setCell]; done) | (simp; omega) | (simp [World.setCell]; omega))).trans (by go_simp)
      have q22 : w2.cell? ⟨w1.heap.size, 0, none⟩ = some (.int .i64 0) := (hb2.cell (p := ⟨w1.heap.size, 0, none⟩) (by first | omega | (simp; done) | (simp [World.setCell]; done) | (simp; omega) | (simp [World.setCell]; omega))).trans (by go_cell)
      have g22 : w2.frozen? ⟨w1.heap.size, 0, none⟩ = false := (hb2.frozen (p := ⟨w1.heap.size, 0, none⟩) (by first | omega | (simp; done) | (simp [World.setCell]; done) | (simp; omega) | (simp [World.setCell]; omega))).trans (by go_simp)
      have q23 : w2.cell? ⟨w1.heap.size, 1, none⟩ = some (.int .i64 0) := (hb2.cell (p := ⟨w1.heap.size, 1, none⟩) (by first | omega | (simp; done) | (simp [World.setCell]; done) | (simp; omega) | (simp [World.setCell]; omega))).trans (by go_cell)
      have g23 : w2.frozen? ⟨w1.heap.size, 1, none⟩ = false := (hb2.frozen (p := ⟨w1.heap.size, 1, none⟩) (by first | omega | (simp; done) | (simp [World.setCell]; done) | (simp; omega) | (simp [World.setCell]; omega))).trans (by go_simp)
      have hB2 : Below w.heap.size w w2 := Below.trans (by first | go_grown | (repeat (first | exact hB1 | refine Below.alloc ?_ (by simp [World.setCell]; omega) _ | refine below_set ?_ (by omega)))) (hb2.mono (by go_size))
      clear hb2 q10 q11 g10 g11
      go_wp2_with fail
      with_reducible refine (kB _ (hT.below (by first | go_grown | (repeat (first | exact hB2 | refine Below.alloc ?_ (by simp [World.setCell]; omega) _ | refine below_set ?_ (by omega)))))).mono ?_
      rintro e w3 ⟨rfl, hb3⟩
      have z3 : w1.heap.size < w3.heap.size := Nat.lt_of_lt_of_le (by first | omega | (simp; done) | (simp [World.setCell]; done) | (simp; omega) | (simp [World.setCell]; omega)) hb3.size
      have z4 : w.heap.size < w3.heap.size := by omega
      have q30 : w3.cell? ⟨w.heap.size, 0, none⟩ = some (.int .i64 0) := (hb3.cell (p := ⟨w.heap.size, 0, none⟩) (by first | omega | (simp; done) | (simp [World.setCell]; done) | (simp; omega) | (simp [World.setCell]; omega))).trans (by go_cell)
      have g30 : w3.frozen? ⟨w.heap.size, 0, none⟩ = false := (hb3.frozen (p := ⟨w.heap.size, 0, none⟩) (by first | omega | (simp; done) | (simp [World.setCell]; done) | (simp; omega) | (simp [World.setCell]; omega))).trans (by go_simp)
      have q31 : w3.cell? ⟨w.heap.size, 1, none⟩ = some (.int .i64 0) := (hb3.cell (p := ⟨w.heap.size, 1, none⟩) (by first | omega | (simp; done) | (simp [World.setCell]; done) | (simp; omega) | (simp [World.setCell]; omega))).trans (by go_cell)
      have g31 : w3.frozen? ⟨w.heap.size, 1, none⟩ = false := (hb3.frozen (p := ⟨w.heap.size, 1, none⟩) (by first | omega | (simp; done) | (simp [World.setCell]; done) | (simp; omega) | (simp [World.setCell]; omega))).trans (by go_simp)
      have q32 : w3.cell? ⟨w1.heap.size, 0, none⟩ = some (.int .i64 P) := (hb3.cell (p := ⟨w1.heap.size, 0, none⟩) (by first | omega | (simp; done) | (simp [World.setCell]; done) | (simp; omega) | (simp [World.setCell]; omega))).trans (by go_cell)
      have g32 : w3.frozen? ⟨w1.heap.size, 0, none⟩ = false := (hb3.frozen (p := ⟨w1.heap.size, 0, none⟩) (by first | omega | (simp; done) | (simp [World.setCell]; done) | (simp; omega) | (simp [World.setCell]; omega))).trans (by go_simp)
      have q33 : w3.cell? ⟨w1.heap.size, 1, none⟩ = some (.int .i64 0) := (hb3.cell (p := ⟨w1.heap.size, 1, none⟩) (by first | omega | (simp; done) | (simp [World.setCell]; done) | (simp; omega) | (simp [World.setCell]; omega))).trans (by go_cell)
      have g33 : w3.frozen? ⟨w1.heap.size, 1, none⟩ = false := (hb3.frozen (p := ⟨w1.heap.size, 1, none⟩) (by first | omega | (simp; done) | (simp [World.setCell]; done) | (simp; omega) | (simp [World.setCell]; omega))).trans (by go_simp)
      have hB3 : Below w.heap.size w w3 := Below.trans (by first | go_grown | (repeat (first | exact hB2 | refine Below.alloc ?_ (by simp [World.setCell]; omega) _ | refine below_set ?_ (by omega)))) (hb3.mono (by go_size))
      clear hb3 q20 g20 q21 g21 q22 g22 q23 g23
      go_wp2_with fail
      with_reducible refine (kv _).mono ?_
      rintro e w4 ⟨rfl, hb4⟩
      have za4 : w1.heap.size < w4.heap.size := Nat.lt_of_lt_of_le (by first | omega | (simp; done) | (simp [World.setCell]; done) | (simp; omega) | (simp [World.setCell]; omega)) hb4.size
      have zb4 : w.heap.size < w4.heap.size := by omega
      have q40 : w4.cell? ⟨w.heap.size, 0, none⟩ = some (.int .i64 0) := (hb4.cell (p := ⟨w.heap.size, 0, none⟩) (by first | omega | (simp; done) | (simp [World.setCell]; done) | (simp; omega) | (simp [World.setCell]; omega))).trans (by go_cell)
      have g40 : w4.frozen? ⟨w.heap.size, 0, none⟩ = false := (hb4.frozen (p := ⟨w.heap.size, 0, none⟩) (by first | omega | (simp; done) | (simp [World.setCell]; done) | (simp; omega) | (simp [World.setCell]; omega))).trans (by go_simp)
      have q41 : w4.cell? ⟨w.heap.size, 1, none⟩ = some (.int .i64 0) := (hb4.cell (p := ⟨w.heap.size, 1, none⟩) (by first | omega | (simp; done) | (simp [World.setCell]; done) | (simp; omega) | (simp [World.setCell]; omega))).trans (by go_cell)
      have g41 : w4.frozen? ⟨w.heap.size, 1, none⟩ = false := (hb4.frozen (p := ⟨w.heap.size, 1, none⟩) (by first | omega | (simp; done) | (simp [World.setCell]; done) | (simp; omega) | (simp [World.setCell]; omega))).trans (by go_simp)
      have q42 : w4.cell? ⟨w1.heap.size, 0, none⟩ = some (.int .i64 P) := (hb4.cell (p := ⟨w1.heap.size, 0, none⟩) (by first | omega | (simp; done) | (simp [World.setCell]; done) | (simp; omega) | (simp [World.setCell]; omega))).trans (by go_cell)
      have g42 : w4.frozen? ⟨w1.heap.size, 0, none⟩ = false := (hb4.frozen (p := ⟨w1.heap.size, 0, none⟩) (by first | omega | (simp; done) | (simp [World.setCell]; done) | (simp; omega) | (simp [World.setCell]; omega))).trans (by go_simp)
      have q43 : w4.cell? ⟨w1.heap.size, 1, none⟩ = some (.int .i64 Q) := (hb4.cell (p := ⟨w1.heap.size, 1, none⟩) (by first | omega | (simp; done) | (simp [World.setCell]; done) | (simp; omega) | (simp [World.setCell]; omega))).trans (by go_cell)
      have g43 : w4.frozen? ⟨w1.heap.size, 1, none⟩ = false := (hb4.frozen (p := ⟨w1.heap.size, 1, none⟩) (by first | omega | (simp; done) | (simp [World.setCell]; done) | (simp; omega) | (simp [World.setCell]; omega))).trans (by go_simp)
      have hB4 : Below w.heap.size w w4 := Below.trans (by first | go_grown | (repeat (first | exact hB3 | refine Below.alloc ?_ (by simp [World.setCell]; omega) _ | refine below_set ?_ (by omega)))) (hb4.mono (by go_size))
      clear hb4
      go_wp2_with fail
      with_reducible refine (kt _ (hT.below (by first | go_grown | (repeat (first | exact hB4 | refine Below.alloc ?_ (by simp [World.setCell]; omega) _ | refine below_set ?_ (by omega))))).pow).mono ?_
      rintro e w5 ⟨rfl, hb5⟩
      have za5 : w1.heap.size < w5.heap.size := Nat.lt_of_lt_of_le (by first | omega | (simp; done) | (simp [World.setCell]; done) | (simp; omega) | (simp [World.setCell]; omega)) hb5.size
      have zb5 : w.heap.size < w5.heap.size := by omega
      have q50 : w5.cell? ⟨w.heap.size, 0, none⟩ = some (.int .i64 0) := (hb5.cell (p := ⟨w.heap.size, 0, none⟩) (by first | omega | (simp; done) | (simp [World.setCell]; done) | (simp; omega) | (simp [World.setCell]; omega))).trans (by go_cell)
      have g50 : w5.frozen? ⟨w.heap.size, 0, none⟩ = false := (hb5.frozen (p := ⟨w.heap.size, 0, none⟩) (by first | omega | (simp; done) | (simp [World.setCell]; done) | (simp; omega) | (simp [World.setCell]; omega))).trans (by go_simp)
      have q51 : w5.cell? ⟨w.heap.size, 1, none⟩ = some (.int .i64 0) := (hb5.cell (p := ⟨w.heap.size, 1, none⟩) (by first | omega | (simp; done) | (simp [World.setCell]; done) | (simp; omega) | (simp [World.setCell]; omega))).trans (by go_cell)
      have g51 : w5.frozen? ⟨w.heap.size, 1, none⟩ = false := (hb5.frozen (p := ⟨w.heap.size, 1, none⟩) (by first | omega | (simp; done) | (simp [World.setCell]; done) | (simp; omega) | (simp [World.setCell]; omega))).trans (by go_simp)
      have q52 : w5.cell? ⟨w1.heap.size, 0, none⟩ = some (.int .i64 P) := (hb5.cell (p := ⟨w1.heap.size, 0, none⟩) (by first | omega | (simp; done) | (simp [World.setCell]; done) | (simp; omega) | (simp [World.setCell]; omega))).trans (by go_cell)
      have g52 : w5.frozen? ⟨w1.heap.size, 0, none⟩ = false := (hb5.frozen (p := ⟨w1.heap.size, 0, none⟩) (by first | omega | (simp; done) | (simp [World.setCell]; done) | (simp; omega) | (simp [World.setCell]; omega))).trans (by go_simp)
      have q53 : w5.cell? ⟨w1.heap.size, 1, none⟩ = some (.int .i64 Q) := (hb5.cell (p := ⟨w1.heap.size, 1, none⟩) (by first | omega | (simp; done) | (simp [World.setCell]; done) | (simp; omega) | (simp [World.setCell]; omega))).trans (by go_cell)
      have g53 : w5.frozen? ⟨w1.heap.size, 1, none⟩ = false := (hb5.frozen (p := ⟨w1.heap.size, 1, none⟩) (by first | omega | (simp; done) | (simp [World.setCell]; done) | (simp; omega) | (simp [World.setCell]; omega))).trans (by go_simp)
      have hB5 : Below w.heap.size w w5 := Below.trans (by first | go_grown | (repeat (first | exact hB4 | refine Below.alloc ?_ (by simp [World.setCell]; omega) _ | refine below_set ?_ (by omega)))) (hb5.mono (by go_size))
      clear hb5
      go_wp2_with fail
      refine bodyPost_ret (by simp [results, Tryd.results11, go_sem, *]; try rfl) rfl ?_
      first
        | exact ⟨rfl, (by first | go_grown | (repeat (first | exact hB5 | refine Below.alloc ?_ (by simp [World.setCell]; omega) _ | refine below_set ?_ (by omega))))⟩
        | exact ⟨rfl, (by first | go_grown | (repeat (first | exact hB4 | refine Below.alloc ?_ (by simp [World.setCell]; omega) _ | refine below_set ?_ (by omega))))⟩
        | exact ⟨rfl, (by first | go_grown | (repeat (first | exact hB3 | refine Below.alloc ?_ (by simp [World.setCell]; omega) _ | refine below_set ?_ (by omega))))⟩

/-- What two numerals around a sign are read as. -/
def TwoIs (s : ByteArray) (c : UInt8) (x y : Int) (o : Bool) : Prop := (∃ p q, splitL s (c.toNat : Int) = [p, q] ∧ x = numR p ∧ y = numR q ∧ o = (numOk p && numOk q)) ∨ ((splitL s (c.toNat : Int)).length ≠ 2 ∧ x = 0 ∧ y = 0 ∧ o = false)
set_option maxHeartbeats 2000000 in
theorem spec_l03Two (s : ByteArray) (c : UInt8) (w : World) (hs : s.size ≤ 1048576) :
    Calls Tryd.prog 22 #[.string s, .int .u8 c.toNat] w fun e w' => ∃ x y o, e = .returned (.tuple #[.int .i64 x, .int .i64 y, .bool o]) ∧ TwoIs s c x y o ∧ Below w.heap.size w w' := by
  have ksp := fun W => spec_l01Split s c.toNat W hs
  by_cases hlen : (splitL s (c.toNat : Int)).length = 2
  · obtain ⟨p, q, hpq⟩ := two_of hlen
    have hz := two_size (c := c) hpq
    have HI := Lib.hid (show TwoIs s c (numR p) (numR q) (numOk p && numOk q) from .inl ⟨p, q, hpq, rfl, rfl, rfl⟩)
    rw [hpq] at ksp
    have kp := fun W => spec_l01Number p W (by omega)
    have kq := fun W => spec_l01Number q W (by omega)
    clear hpq hlen hz
    generalize numR p = P at *
    generalize numR q = Q at *
    cases h1 : numOk p <;> cases h2 : numOk q
    all_goals
      rw [h1] at kp
      rw [h2] at kq
      have HJ := Lib.hid HI.out
      rw [h1, h2] at HJ
      clear h1 h2 HI
      generalize (c.toNat : Int) = C at *
      go_enter Tryd.func22, Tryd.ntmps22
      go_wp2_with fail
      refine (ksp _).mono ?_
      rintro e w1 ⟨v, rfl, hS, hb⟩
      obtain ⟨g, c, rfl, hg, hc2, c0, c1⟩ := hS.two
      have hB : Below w.heap.size w w1 := hb
      have hq := hB.size
      clear hS hb
      go_wp2_with (first | (go_at_call 34; (with_reducible refine (kp _).mono ?_); rintro e w' ⟨rfl, hb⟩; obtain ⟨hc, hf, hs⟩ := bkeep hb; have hz : w.heap.size ≤ w'.heap.size := (by have := hb.size; (try simp at this); omega); have hB : Below w.heap.size w w' := Below.trans (by go_grown) (hb.mono (by go_size))) | (go_at_call 34; (with_reducible refine (kq _).mono ?_); rintro e w' ⟨rfl, hb⟩; obtain ⟨hc, hf, hs⟩ := bkeep hb; have hz : w.heap.size ≤ w'.heap.size := (by have := hb.size; (try simp at this); omega); have hB : Below w.heap.size w w' := Below.trans (by go_grown) (hb.mono (by go_size))))
      go_returns
      exact ⟨_, _, _, rfl, HJ.out, hB⟩
  · have HI := Lib.hid (show TwoIs s c 0 0 false from .inr ⟨hlen, rfl, rfl, rfl⟩)
    have hn : ((((splitL s (c.toNat : Int)).length : Nat) : Int) == 2) = false := beq_eq_false_iff_ne.2 (by omega)
    clear hlen
    generalize splitL s (c.toNat : Int) = L at *
    generalize (c.toNat : Int) = C at *
    go_enter Tryd.func22, Tryd.ntmps22
    go_wp2_with fail
    refine (ksp _).mono ?_
    rintro e w1 ⟨v, rfl, hS, hb⟩
    obtain ⟨a, c, rfl⟩ := hS.len
    clear hS
    go_wp2_with fail
    go_returns
    exact ⟨_, _, _, rfl, HI.out, hb⟩

set_option maxHeartbeats 2000000 in
theorem spec_ReadBrake (s : ByteArray) (i j : Int) (ok : Bool) (w : World) (hs : s.size ≤ 1048576) (hp : BrakeIs s i j ok) :
    Calls Tryd.prog 10 #[.string s] w fun e w' => e = .returned (.tuple #[.agg #[.int .i64 i, .int .i64 j], .bool ok]) ∧ Below w.heap.size w w' := by
  have kt := fun W => spec_l03Two s 43 W hs
  have ko := fun g d f W c0 c1 => spec_l11Ok g 0 d f W c0 c1
  have HY := Lib.hid (fun p q h0 h1 h2 h3 => brake_spec (p := p) (q := q) hp h0 h1 h2 h3)
  have HN := Lib.hid (fun h => brake_spec_no hp h)
  clear hp
  go_enter Tryd.func10, Tryd.ntmps10
  go_wp2_with fail
  refine (kt _).mono ?_
  rintro e w1 ⟨x, y, o, rfl, hTwo, hb⟩
  obtain ⟨hc, hf, hsx⟩ := bkeep hb
  have z0 : w.heap.size < w1.heap.size := hsx _ (by simp)
  have hB : Below w.heap.size w w1 := Below.trans (by go_grown) (hb.mono (by go_size))
  clear hb kt
  replace ko := fun g W c0 c1 => ko g x y W c0 c1
  cases o
  · have hno : ok = false ∧ i = 0 ∧ j = 0 := HN.out fun p q h h1 h2 _ => by
      rcases hTwo with ⟨p', q', e, _, _, e3⟩ | ⟨hl, _⟩
      · rw [show ((43 : UInt8).toNat : Int) = 43 from rfl, h] at e
        obtain ⟨rfl, e4⟩ := List.cons.inj e
        obtain ⟨rfl, _⟩ := List.cons.inj e4
        rw [h1, h2] at e3; cases e3
      · exact hl (by rw [show ((43 : UInt8).toNat : Int) = 43 from rfl, h]; rfl)
    obtain ⟨rfl, rfl, rfl⟩ := hno
    clear HY HN hTwo
    go_wp2_with fail
    refine bodyPost_ret (by simp [results, Tryd.results10, go_sem, *]; try rfl) rfl ?_
    exact ⟨rfl, (by first | go_grown | (repeat (first | exact hB | refine Below.alloc ?_ (by simp [World.setCell]; omega) _ | refine below_set ?_ (by omega))))⟩
  · obtain ⟨p, q, e, rfl, rfl, e3⟩ : ∃ p q, splitL s 43 = [p, q] ∧ x = numR p ∧ y = numR q ∧ true = (numOk p && numOk q) := by
      rcases hTwo with h | ⟨_, _, _, h⟩
      · exact h
      · cases h
    rw [eq_comm, Bool.and_eq_true] at e3
    cases hv : validBrake (numR p) (numR q)
    · obtain ⟨rfl, rfl, rfl⟩ := HN.out fun p' q' h h1 h2 h3 => by
        rw [e] at h
        obtain ⟨rfl, e4⟩ := List.cons.inj h
        obtain ⟨rfl, _⟩ := List.cons.inj e4
        rw [hv] at h3; cases h3
      rw [hv] at ko
      clear HY HN hTwo e e3 hv
      generalize numR p = P at *
      generalize numR q = Q at *
      go_wp2_with (go_at_call 23; refine (ko _ _ (by go_cell) (by go_cell)).mono ?_; rintro e w' ⟨rfl, rfl⟩)
      refine bodyPost_ret (by simp [results, Tryd.results10, go_sem, *]; try rfl) rfl ?_
      exact ⟨rfl, (by first | go_grown | (repeat (first | exact hB | refine Below.alloc ?_ (by simp [World.setCell]; omega) _ | refine below_set ?_ (by omega))))⟩
    · obtain ⟨rfl, rfl, rfl⟩ := HY.out p q e e3.1 e3.2 hv
      rw [hv] at ko
      clear HY HN hTwo e e3 hv
      go_wp2_with (go_at_call 23; refine (ko _ _ (by go_cell) (by go_cell)).mono ?_; rintro e w' ⟨rfl, rfl⟩)
      refine bodyPost_ret (by simp [results, Tryd.results10, go_sem, *]; try rfl) rfl ?_
      exact ⟨rfl, (by first | go_grown | (repeat (first | exact hB | refine Below.alloc ?_ (by simp [World.setCell]; omega) _ | refine below_set ?_ (by omega))))⟩

end Go.Proofs.YtdilenfhnanepaaDoor
