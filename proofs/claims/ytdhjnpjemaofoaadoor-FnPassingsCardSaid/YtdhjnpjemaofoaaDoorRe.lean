/-
  Contracts: passings and brakes read by the program; the walks of the laws.
-/
import Derived.Test.YtdhjnpjemaofoaaDoorRd
import Derived.Test.YtdhjnpjemaofoaaDoorNk
namespace Go.Proofs.YtdhjnpjemaofoaaDoor
open Go.RowKit
set_option linter.unusedVariables false
set_option linter.unusedSimpArgs false


theorem ba_eq {a b : ByteArray} (h : a = b) : (a.toList == b.toList) = true := by rw [h]; simp

set_option maxHeartbeats 4000000 in
theorem impl_ReadPassing (s : ByteArray) (i j : Int) (ok : Bool) (w : World) (hs : s.size ≤ 1048576) (hp : PassIs s i j ok) (hT : Tabs w) (hM : MaxAt w) :
    Calls Tryd.prog 27 #[.string s] w fun e w' => e = .returned (.tuple #[.agg #[.int .i64 i, .int .i64 j], .bool ok]) ∧ Below w.heap.size w w' := by
  have hcs := cut_size s 64
  have kc := fun W h => strings_Cut_c s 64 W hs h
  have kA := fun W h => impl_ReadDecimal (cutA s 64) W (by omega) h
  have kB := fun W h => impl_ReadDecimal (cutB s 64) W (by omega) h
  have kt := fun W h => impl_PassingText (numR (cutA s 64)) (numR (cutB s 64)) W h
  have HY := Lib.hid (fun h0 h => pass_impl hp h0 h)
  have HN := Lib.hid (fun h => pass_impl_no hp h)
  clear hp hcs
  by_cases he : s = ⟨#[]⟩
  · obtain ⟨rfl, rfl, rfl⟩ := HN.out (.inl he)
    clear HY HN
    generalize numR (cutA s 64) = P at *
    generalize numR (cutB s 64) = Q at *
    generalize numOk (cutA s 64) = OP at *
    generalize numOk (cutB s 64) = OQ at *
    generalize cutA s 64 = S1 at *
    generalize cutB s 64 = S2 at *
    subst he
    go_enter Tryd.func27, Tryd.ntmps27
    go_wp2_with fail
    with_reducible refine (kc _ (hM.below (by go_grown))).mono ?_
    rintro e w1 ⟨⟨bo, rfl⟩, hb1⟩
    have q10 : w1.cell? ⟨w.heap.size, 0, none⟩ = some (.int .i64 0) := (hb1.cell (p := ⟨w.heap.size, 0, none⟩) (by first | omega | (simp; done) | (simp [World.setCell]; done) | (simp; omega) | (simp [World.setCell]; omega))).trans (by go_cell)
    have g10 : w1.frozen? ⟨w.heap.size, 0, none⟩ = false := (hb1.frozen (p := ⟨w.heap.size, 0, none⟩) (by first | omega | (simp; done) | (simp [World.setCell]; done) | (simp; omega) | (simp [World.setCell]; omega))).trans (by go_simp)
    have q11 : w1.cell? ⟨w.heap.size, 1, none⟩ = some (.int .i64 0) := (hb1.cell (p := ⟨w.heap.size, 1, none⟩) (by first | omega | (simp; done) | (simp [World.setCell]; done) | (simp; omega) | (simp [World.setCell]; omega))).trans (by go_cell)
    have g11 : w1.frozen? ⟨w.heap.size, 1, none⟩ = false := (hb1.frozen (p := ⟨w.heap.size, 1, none⟩) (by first | omega | (simp; done) | (simp [World.setCell]; done) | (simp; omega) | (simp [World.setCell]; omega))).trans (by go_simp)
    have z0 : w.heap.size < w1.heap.size := Nat.lt_of_lt_of_le (by simp) hb1.size
    have hB1 : Below w.heap.size w w1 := Below.trans (by go_grown) (hb1.mono (by go_size))
    clear hb1
    go_wp2_with fail
    with_reducible refine (kA _ (hT.below (by first | go_grown | (repeat (first | exact hB1 | refine Below.alloc ?_ (by simp [World.setCell]; omega) _ | refine below_set ?_ (by omega)))))).mono ?_
    rintro e w2 ⟨rfl, hb2⟩
    have z1 : w1.heap.size < w2.heap.size := Nat.lt_of_lt_of_le (by simp) hb2.size
    have z2 : w.heap.size < w2.heap.size := by omega
    have q20 : w2.cell? ⟨w.heap.size, 0, none⟩ = some (.int .i64 0) := (hb2.cell (p := ⟨w.heap.size, 0, none⟩) (by first | omega | (simp; done) | (simp [World.setCell]; done) | (simp; omega) | (simp [World.setCell]; omega))).trans (by go_cell)
    have g20 : w2.frozen? ⟨w.heap.size, 0, none⟩ = false := (hb2.frozen (p := ⟨w.heap.size, 0, none⟩) (by first | omega | (simp; done) | (simp [World.setCell]; done) | (simp; omega) | (simp [World.setCell]; omega))).trans (by go_simp)
    have q21 : w2.cell? ⟨w.heap.size, 1, none⟩ = some (.int .i64 0) := (hb2.cell (p := ⟨w.heap.size, 1, none⟩) (by first | omega | (simp; done) | (simp [World.setCell]; done) | (simp; omega) | (simp [World.setCell]; omega))).trans (by go_cell)
    have g21 : w2.frozen? ⟨w.heap.size, 1, none⟩ = false := (hb2.frozen (p := ⟨w.heap.size, 1, none⟩) (by first | omega | (simp; done) | (simp [World.setCell]; done) | (simp; omega) | (simp [World.setCell]; omega))).trans (by go_simp)
    have q22 : w2.cell? ⟨w1.heap.size, 0, none⟩ = some (.int .i64 0) := (hb2.cell (p := ⟨w1.heap.size, 0, none⟩) (by first | omega | (simp; done) | (simp [World.setCell]; done) | (simp; omega) | (simp [World.setCell]; omega))).trans (by go_cell)
    have g22 : w2.frozen? ⟨w1.heap.size, 0, none⟩ = false := (hb2.frozen (p := ⟨w1.heap.size, 0, none⟩) (by first | omega | (simp; done) | (simp [World.setCell]; done) | (simp; omega) | (simp [World.setCell]; omega))).trans (by go_simp)
    have q23 : w2.cell? ⟨w1.heap.size, 1, none⟩ = some (.int .i64 0) := (hb2.cell (p := ⟨w1.heap.size, 1, none⟩) (by first | omega | (simp; done) | (simp [World.setCell]; done) | (simp; omega) | (simp [World.setCell]; omega))).trans (by go_cell)
    have g23 : w2.frozen? ⟨w1.heap.size, 1, none⟩ = false := (hb2.frozen (p := ⟨w1.heap.size, 1, none⟩) (by first | omega | (simp; done) | (simp [World.setCell]; done) | (simp; omega) | (simp [World.setCell]; omega))).trans (by go_simp)
    have hB2 : Below w.heap.size w w2 := Below.trans (by first | go_grown | (repeat (first | exact hB1 | refine Below.alloc ?_ (by simp [World.setCell]; omega) _ | refine below_set ?_ (by omega)))) (hb2.mono (by go_size))
    clear hb2 q10 q11 g10 g11
    go_wp2_with fail
    with_reducible refine (kB _ (hT.below (by first | go_grown | (repeat (first | exact hB2 | refine Below.alloc ?_ (by simp [World.setCell]; omega) _ | refine below_set ?_ (by omega)))))).mono ?_
    rintro e w3 ⟨rfl, hb3⟩
    have z3 : w1.heap.size < w3.heap.size := Nat.lt_of_lt_of_le (by first | omega | (simp; done) | (simp [World.setCell]; done) | (simp; omega) | (simp [World.setCell]; omega)) hb3.size
    have z4 : w.heap.size < w3.heap.size := by omega
    have q30 : w3.cell? ⟨w.heap.size, 0, none⟩ = some (.int .i64 0) := (hb3.cell (p := ⟨w.heap.size, 0, none⟩) (by first | omega | (simp; done) | (simp [World.setCell]; done) | (simp; omega) | (simp [World.setCell]; omega))).trans (by go_cell)
    have g30 : w3.frozen? ⟨w.heap.size, 0, none⟩ = false := (hb3.frozen (p := ⟨w.heap.size, 0, none⟩) (by first | omega | (simp; done) | (simp [World.setCell]; done) | (simp; omega) | (simp [World.setCell]; omega))).trans (by go_simp)
    have q31 : w3.cell? ⟨w.heap.size, 1, none⟩ = some (.int .i64 0) := (hb3.cell (p := ⟨w.heap.size, 1, none⟩) (by first | omega | (simp; done) | (simp [World.setCell]; done) | (simp; omega) | (simp [World.setCell]; omega))).trans (by go_cell)
    have g31 : w3.frozen? ⟨w.heap.size, 1, none⟩ = false := (hb3.frozen (p := ⟨w.heap.size, 1, none⟩) (by first | omega | (simp; done) | (simp [World.setCell]; done) | (simp; omega) | (simp [World.setCell]; omega))).trans (by go_simp)
    have q32 : w3.cell? ⟨w1.heap.size, 0, none⟩ = some (.int .i64 P) := (hb3.cell (p := ⟨w1.heap.size, 0, none⟩) (by first | omega | (simp; done) | (simp [World.setCell]; done) | (simp; omega) | (simp [World.setCell]; omega))).trans (by go_cell)
    have g32 : w3.frozen? ⟨w1.heap.size, 0, none⟩ = false := (hb3.frozen (p := ⟨w1.heap.size, 0, none⟩) (by first | omega | (simp; done) | (simp [World.setCell]; done) | (simp; omega) | (simp [World.setCell]; omega))).trans (by go_simp)
    have q33 : w3.cell? ⟨w1.heap.size, 1, none⟩ = some (.int .i64 0) := (hb3.cell (p := ⟨w1.heap.size, 1, none⟩) (by first | omega | (simp; done) | (simp [World.setCell]; done) | (simp; omega) | (simp [World.setCell]; omega))).trans (by go_cell)
    have g33 : w3.frozen? ⟨w1.heap.size, 1, none⟩ = false := (hb3.frozen (p := ⟨w1.heap.size, 1, none⟩) (by first | omega | (simp; done) | (simp [World.setCell]; done) | (simp; omega) | (simp [World.setCell]; omega))).trans (by go_simp)
    have hB3 : Below w.heap.size w w3 := Below.trans (by first | go_grown | (repeat (first | exact hB2 | refine Below.alloc ?_ (by simp [World.setCell]; omega) _ | refine below_set ?_ (by omega)))) (hb3.mono (by go_size))
    clear hb3 q20 g20 q21 g21 q22 g22 q23 g23
    go_wp2_with fail
    refine bodyPost_ret (by simp [results, Tryd.results27, go_sem, *]; try rfl) rfl ?_
    first
      | exact ⟨rfl, (by first | go_grown | (repeat (first | exact hB5 | refine Below.alloc ?_ (by simp [World.setCell]; omega) _ | refine below_set ?_ (by omega))))⟩
      | exact ⟨rfl, (by first | go_grown | (repeat (first | exact hB4 | refine Below.alloc ?_ (by simp [World.setCell]; omega) _ | refine below_set ?_ (by omega))))⟩
      | exact ⟨rfl, (by first | go_grown | (repeat (first | exact hB3 | refine Below.alloc ?_ (by simp [World.setCell]; omega) _ | refine below_set ?_ (by omega))))⟩
  · have he2 : (s.toList == ([] : List UInt8)) = false := by
      have := ba_ne he
      rwa [ByteArray.toList_eq ⟨#[]⟩] at this
    by_cases ht : passingText (numR (cutA s 64)) (numR (cutB s 64)) = s
    · have he3 := ba_eq ht
      obtain ⟨rfl, rfl, rfl⟩ := HY.out he ht
      generalize passingText (numR (cutA s 64)) (numR (cutB s 64)) = T at *
      clear ht he
      clear HY HN
      generalize numR (cutA s 64) = P at *
      generalize numR (cutB s 64) = Q at *
      generalize numOk (cutA s 64) = OP at *
      generalize numOk (cutB s 64) = OQ at *
      generalize cutA s 64 = S1 at *
      generalize cutB s 64 = S2 at *
      go_enter Tryd.func27, Tryd.ntmps27
      go_wp2_with fail
      with_reducible refine (kc _ (hM.below (by go_grown))).mono ?_
      rintro e w1 ⟨⟨bo, rfl⟩, hb1⟩
      have q10 : w1.cell? ⟨w.heap.size, 0, none⟩ = some (.int .i64 0) := (hb1.cell (p := ⟨w.heap.size, 0, none⟩) (by first | omega | (simp; done) | (simp [World.setCell]; done) | (simp; omega) | (simp [World.setCell]; omega))).trans (by go_cell)
      have g10 : w1.frozen? ⟨w.heap.size, 0, none⟩ = false := (hb1.frozen (p := ⟨w.heap.size, 0, none⟩) (by first | omega | (simp; done) | (simp [World.setCell]; done) | (simp; omega) | (simp [World.setCell]; omega))).trans (by go_simp)
      have q11 : w1.cell? ⟨w.heap.size, 1, none⟩ = some (.int .i64 0) := (hb1.cell (p := ⟨w.heap.size, 1, none⟩) (by first | omega | (simp; done) | (simp [World.setCell]; done) | (simp; omega) | (simp [World.setCell]; omega))).trans (by go_cell)
      have g11 : w1.frozen? ⟨w.heap.size, 1, none⟩ = false := (hb1.frozen (p := ⟨w.heap.size, 1, none⟩) (by first | omega | (simp; done) | (simp [World.setCell]; done) | (simp; omega) | (simp [World.setCell]; omega))).trans (by go_simp)
      have z0 : w.heap.size < w1.heap.size := Nat.lt_of_lt_of_le (by simp) hb1.size
      have hB1 : Below w.heap.size w w1 := Below.trans (by go_grown) (hb1.mono (by go_size))
      clear hb1
      go_wp2_with fail
      with_reducible refine (kA _ (hT.below (by first | go_grown | (repeat (first | exact hB1 | refine Below.alloc ?_ (by simp [World.setCell]; omega) _ | refine below_set ?_ (by omega)))))).mono ?_
      rintro e w2 ⟨rfl, hb2⟩
      have z1 : w1.heap.size < w2.heap.size := Nat.lt_of_lt_of_le (by simp) hb2.size
      have z2 : w.heap.size < w2.heap.size := by omega
      have q20 : w2.cell? ⟨w.heap.size, 0, none⟩ = some (.int .i64 0) := (hb2.cell (p := ⟨w.heap.size, 0, none⟩) (by first | omega | (simp; done) | (simp [World.setCell]; done) | (simp; omega) | (simp [World.setCell]; omega))).trans (by go_cell)
      have g20 : w2.frozen? ⟨w.heap.size, 0, none⟩ = false := (hb2.frozen (p := ⟨w.heap.size, 0, none⟩) (by first | omega | (simp; done) | (simp [World.setCell]; done) | (simp; omega) | (simp [World.setCell]; omega))).trans (by go_simp)
      have q21 : w2.cell? ⟨w.heap.size, 1, none⟩ = some (.int .i64 0) := (hb2.cell (p := ⟨w.heap.size, 1, none⟩) (by first | omega | (simp; done) | (simp [World.setCell]; done) | (simp; omega) | (simp [World.setCell]; omega))).trans (by go_cell)
      have g21 : w2.frozen? ⟨w.heap.size, 1, none⟩ = false := (hb2.frozen (p := ⟨w.heap.size, 1, none⟩) (by first | omega | (simp; done) | (simp [World.setCell]; done) | (simp; omega) | (simp [World.setCell]; omega))).trans (by go_simp)
      have q22 : w2.cell? ⟨w1.heap.size, 0, none⟩ = some (.int .i64 0) := (hb2.cell (p := ⟨w1.heap.size, 0, none⟩) (by first | omega | (simp; done) | (simp [World.setCell]; done) | (simp; omega) | (simp [World.setCell]; omega))).trans (by go_cell)
      have g22 : w2.frozen? ⟨w1.heap.size, 0, none⟩ = false := (hb2.frozen (p := ⟨w1.heap.size, 0, none⟩) (by first | omega | (simp; done) | (simp [World.setCell]; done) | (simp; omega) | (simp [World.setCell]; omega))).trans (by go_simp)
      have q23 : w2.cell? ⟨w1.heap.size, 1, none⟩ = some (.int .i64 0) := (hb2.cell (p := ⟨w1.heap.size, 1, none⟩) (by first | omega | (simp; done) | (simp [World.setCell]; done) | (simp; omega) | (simp [World.setCell]; omega))).trans (by go_cell)
      have g23 : w2.frozen? ⟨w1.heap.size, 1, none⟩ = false := (hb2.frozen (p := ⟨w1.heap.size, 1, none⟩) (by first | omega | (simp; done) | (simp [World.setCell]; done) | (simp; omega) | (simp [World.setCell]; omega))).trans (by go_simp)
      have hB2 : Below w.heap.size w w2 := Below.trans (by first | go_grown | (repeat (first | exact hB1 | refine Below.alloc ?_ (by simp [World.setCell]; omega) _ | refine below_set ?_ (by omega)))) (hb2.mono (by go_size))
      clear hb2 q10 q11 g10 g11
      go_wp2_with fail
      with_reducible refine (kB _ (hT.below (by first | go_grown | (repeat (first | exact hB2 | refine Below.alloc ?_ (by simp [World.setCell]; omega) _ | refine below_set ?_ (by omega)))))).mono ?_
      rintro e w3 ⟨rfl, hb3⟩
      have z3 : w1.heap.size < w3.heap.size := Nat.lt_of_lt_of_le (by first | omega | (simp; done) | (simp [World.setCell]; done) | (simp; omega) | (simp [World.setCell]; omega)) hb3.size
      have z4 : w.heap.size < w3.heap.size := by omega
      have q30 : w3.cell? ⟨w.heap.size, 0, none⟩ = some (.int .i64 0) := (hb3.cell (p := ⟨w.heap.size, 0, none⟩) (by first | omega | (simp; done) | (simp [World.setCell]; done) | (simp; omega) | (simp [World.setCell]; omega))).trans (by go_cell)
      have g30 : w3.frozen? ⟨w.heap.size, 0, none⟩ = false := (hb3.frozen (p := ⟨w.heap.size, 0, none⟩) (by first | omega | (simp; done) | (simp [World.setCell]; done) | (simp; omega) | (simp [World.setCell]; omega))).trans (by go_simp)
      have q31 : w3.cell? ⟨w.heap.size, 1, none⟩ = some (.int .i64 0) := (hb3.cell (p := ⟨w.heap.size, 1, none⟩) (by first | omega | (simp; done) | (simp [World.setCell]; done) | (simp; omega) | (simp [World.setCell]; omega))).trans (by go_cell)
      have g31 : w3.frozen? ⟨w.heap.size, 1, none⟩ = false := (hb3.frozen (p := ⟨w.heap.size, 1, none⟩) (by first | omega | (simp; done) | (simp [World.setCell]; done) | (simp; omega) | (simp [World.setCell]; omega))).trans (by go_simp)
      have q32 : w3.cell? ⟨w1.heap.size, 0, none⟩ = some (.int .i64 P) := (hb3.cell (p := ⟨w1.heap.size, 0, none⟩) (by first | omega | (simp; done) | (simp [World.setCell]; done) | (simp; omega) | (simp [World.setCell]; omega))).trans (by go_cell)
      have g32 : w3.frozen? ⟨w1.heap.size, 0, none⟩ = false := (hb3.frozen (p := ⟨w1.heap.size, 0, none⟩) (by first | omega | (simp; done) | (simp [World.setCell]; done) | (simp; omega) | (simp [World.setCell]; omega))).trans (by go_simp)
      have q33 : w3.cell? ⟨w1.heap.size, 1, none⟩ = some (.int .i64 0) := (hb3.cell (p := ⟨w1.heap.size, 1, none⟩) (by first | omega | (simp; done) | (simp [World.setCell]; done) | (simp; omega) | (simp [World.setCell]; omega))).trans (by go_cell)
      have g33 : w3.frozen? ⟨w1.heap.size, 1, none⟩ = false := (hb3.frozen (p := ⟨w1.heap.size, 1, none⟩) (by first | omega | (simp; done) | (simp [World.setCell]; done) | (simp; omega) | (simp [World.setCell]; omega))).trans (by go_simp)
      have hB3 : Below w.heap.size w w3 := Below.trans (by first | go_grown | (repeat (first | exact hB2 | refine Below.alloc ?_ (by simp [World.setCell]; omega) _ | refine below_set ?_ (by omega)))) (hb3.mono (by go_size))
      clear hb3 q20 g20 q21 g21 q22 g22 q23 g23
      go_wp2_with fail
      with_reducible refine (kt _ (hT.below (by first | go_grown | (repeat (first | exact hB3 | refine Below.alloc ?_ (by simp [World.setCell]; omega) _ | refine below_set ?_ (by omega))))).pow).mono ?_
      rintro e w4 ⟨rfl, hb4⟩
      have za4 : w1.heap.size < w4.heap.size := Nat.lt_of_lt_of_le (by first | omega | (simp; done) | (simp [World.setCell]; done) | (simp; omega) | (simp [World.setCell]; omega)) hb4.size
      have zb4 : w.heap.size < w4.heap.size := by omega
      have q40 : w4.cell? ⟨w.heap.size, 0, none⟩ = some (.int .i64 0) := (hb4.cell (p := ⟨w.heap.size, 0, none⟩) (by first | omega | (simp; done) | (simp [World.setCell]; done) | (simp; omega) | (simp [World.setCell]; omega))).trans (by go_cell)
      have g40 : w4.frozen? ⟨w.heap.size, 0, none⟩ = false := (hb4.frozen (p := ⟨w.heap.size, 0, none⟩) (by first | omega | (simp; done) | (simp [World.setCell]; done) | (simp; omega) | (simp [World.setCell]; omega))).trans (by go_simp)
      have q41 : w4.cell? ⟨w.heap.size, 1, none⟩ = some (.int .i64 0) := (hb4.cell (p := ⟨w.heap.size, 1, none⟩) (by first | omega | (simp; done) | (simp [World.setCell]; done) | (simp; omega) | (simp [World.setCell]; omega))).trans (by go_cell)
      have g41 : w4.frozen? ⟨w.heap.size, 1, none⟩ = false := (hb4.frozen (p := ⟨w.heap.size, 1, none⟩) (by first | omega | (simp; done) | (simp [World.setCell]; done) | (simp; omega) | (simp [World.setCell]; omega))).trans (by go_simp)
      have q42 : w4.cell? ⟨w1.heap.size, 0, none⟩ = some (.int .i64 P) := (hb4.cell (p := ⟨w1.heap.size, 0, none⟩) (by first | omega | (simp; done) | (simp [World.setCell]; done) | (simp; omega) | (simp [World.setCell]; omega))).trans (by go_cell)
      have g42 : w4.frozen? ⟨w1.heap.size, 0, none⟩ = false := (hb4.frozen (p := ⟨w1.heap.size, 0, none⟩) (by first | omega | (simp; done) | (simp [World.setCell]; done) | (simp; omega) | (simp [World.setCell]; omega))).trans (by go_simp)
      have q43 : w4.cell? ⟨w1.heap.size, 1, none⟩ = some (.int .i64 Q) := (hb4.cell (p := ⟨w1.heap.size, 1, none⟩) (by first | omega | (simp; done) | (simp [World.setCell]; done) | (simp; omega) | (simp [World.setCell]; omega))).trans (by go_cell)
      have g43 : w4.frozen? ⟨w1.heap.size, 1, none⟩ = false := (hb4.frozen (p := ⟨w1.heap.size, 1, none⟩) (by first | omega | (simp; done) | (simp [World.setCell]; done) | (simp; omega) | (simp [World.setCell]; omega))).trans (by go_simp)
      have hB4 : Below w.heap.size w w4 := Below.trans (by first | go_grown | (repeat (first | exact hB3 | refine Below.alloc ?_ (by simp [World.setCell]; omega) _ | refine below_set ?_ (by omega)))) (hb4.mono (by go_size))
      clear hb4
      go_wp2_with fail
      refine bodyPost_ret (by simp [results, Tryd.results27, go_sem, *]; try rfl) rfl ?_
      first
        | exact ⟨rfl, (by first | go_grown | (repeat (first | exact hB5 | refine Below.alloc ?_ (by simp [World.setCell]; omega) _ | refine below_set ?_ (by omega))))⟩
        | exact ⟨rfl, (by first | go_grown | (repeat (first | exact hB4 | refine Below.alloc ?_ (by simp [World.setCell]; omega) _ | refine below_set ?_ (by omega))))⟩
        | exact ⟨rfl, (by first | go_grown | (repeat (first | exact hB3 | refine Below.alloc ?_ (by simp [World.setCell]; omega) _ | refine below_set ?_ (by omega))))⟩
    · have he3 := ba_ne ht
      obtain ⟨rfl, rfl, rfl⟩ := HN.out (.inr ht)
      generalize passingText (numR (cutA s 64)) (numR (cutB s 64)) = T at *
      clear ht he
      clear HY HN
      generalize numR (cutA s 64) = P at *
      generalize numR (cutB s 64) = Q at *
      generalize numOk (cutA s 64) = OP at *
      generalize numOk (cutB s 64) = OQ at *
      generalize cutA s 64 = S1 at *
      generalize cutB s 64 = S2 at *
      go_enter Tryd.func27, Tryd.ntmps27
      go_wp2_with fail
      with_reducible refine (kc _ (hM.below (by go_grown))).mono ?_
      rintro e w1 ⟨⟨bo, rfl⟩, hb1⟩
      have q10 : w1.cell? ⟨w.heap.size, 0, none⟩ = some (.int .i64 0) := (hb1.cell (p := ⟨w.heap.size, 0, none⟩) (by first | omega | (simp; done) | (simp [World.setCell]; done) | (simp; omega) | (simp [World.setCell]; omega))).trans (by go_cell)
      have g10 : w1.frozen? ⟨w.heap.size, 0, none⟩ = false := (hb1.frozen (p := ⟨w.heap.size, 0, none⟩) (by first | omega | (simp; done) | (simp [World.setCell]; done) | (simp; omega) | (simp [World.setCell]; omega))).trans (by go_simp)
      have q11 : w1.cell? ⟨w.heap.size, 1, none⟩ = some (.int .i64 0) := (hb1.cell (p := ⟨w.heap.size, 1, none⟩) (by first | omega | (simp; done) | (simp [World.setCell]; done) | (simp; omega) | (simp [World.setCell]; omega))).trans (by go_cell)
      have g11 : w1.frozen? ⟨w.heap.size, 1, none⟩ = false := (hb1.frozen (p := ⟨w.heap.size, 1, none⟩) (by first | omega | (simp; done) | (simp [World.setCell]; done) | (simp; omega) | (simp [World.setCell]; omega))).trans (by go_simp)
      have z0 : w.heap.size < w1.heap.size := Nat.lt_of_lt_of_le (by simp) hb1.size
      have hB1 : Below w.heap.size w w1 := Below.trans (by go_grown) (hb1.mono (by go_size))
      clear hb1
      go_wp2_with fail
      with_reducible refine (kA _ (hT.below (by first | go_grown | (repeat (first | exact hB1 | refine Below.alloc ?_ (by simp [World.setCell]; omega) _ | refine below_set ?_ (by omega)))))).mono ?_
      rintro e w2 ⟨rfl, hb2⟩
      have z1 : w1.heap.size < w2.heap.size := Nat.lt_of_lt_of_le (by simp) hb2.size
      have z2 : w.heap.size < w2.heap.size := by omega
      have q20 : w2.cell? ⟨w.heap.size, 0, none⟩ = some (.int .i64 0) := (hb2.cell (p := ⟨w.heap.size, 0, none⟩) (by first | omega | (simp; done) | (simp [World.setCell]; done) | (simp; omega) | (simp [World.setCell]; omega))).trans (by go_cell)
      have g20 : w2.frozen? ⟨w.heap.size, 0, none⟩ = false := (hb2.frozen (p := ⟨w.heap.size, 0, none⟩) (by first | omega | (simp; done) | (simp [World.setCell]; done) | (simp; omega) | (simp [World.setCell]; omega))).trans (by go_simp)
      have q21 : w2.cell? ⟨w.heap.size, 1, none⟩ = some (.int .i64 0) := (hb2.cell (p := ⟨w.heap.size, 1, none⟩) (by first | omega | (simp; done) | (simp [World.setCell]; done) | (simp; omega) | (simp [World.setCell]; omega))).trans (by go_cell)
      have g21 : w2.frozen? ⟨w.heap.size, 1, none⟩ = false := (hb2.frozen (p := ⟨w.heap.size, 1, none⟩) (by first | omega | (simp; done) | (simp [World.setCell]; done) | (simp; omega) | (simp [World.setCell]; omega))).trans (by go_simp)
      have q22 : w2.cell? ⟨w1.heap.size, 0, none⟩ = some (.int .i64 0) := (hb2.cell (p := ⟨w1.heap.size, 0, none⟩) (by first | omega | (simp; done) | (simp [World.setCell]; done) | (simp; omega) | (simp [World.setCell]; omega))).trans (by go_cell)
      have g22 : w2.frozen? ⟨w1.heap.size, 0, none⟩ = false := (hb2.frozen (p := ⟨w1.heap.size, 0, none⟩) (by first | omega | (simp; done) | (simp [World.setCell]; done) | (simp; omega) | (simp [World.setCell]; omega))).trans (by go_simp)
      have q23 : w2.cell? ⟨w1.heap.size, 1, none⟩ = some (.int .i64 0) := (hb2.cell (p := ⟨w1.heap.size, 1, none⟩) (by first | omega | (simp; done) | (simp [World.setCell]; done) | (simp; omega) | (simp [World.setCell]; omega))).trans (by go_cell)
      have g23 : w2.frozen? ⟨w1.heap.size, 1, none⟩ = false := (hb2.frozen (p := ⟨w1.heap.size, 1, none⟩) (by first | omega | (simp; done) | (simp [World.setCell]; done) | (simp; omega) | (simp [World.setCell]; omega))).trans (by go_simp)
      have hB2 : Below w.heap.size w w2 := Below.trans (by first | go_grown | (repeat (first | exact hB1 | refine Below.alloc ?_ (by simp [World.setCell]; omega) _ | refine below_set ?_ (by omega)))) (hb2.mono (by go_size))
      clear hb2 q10 q11 g10 g11
      go_wp2_with fail
      with_reducible refine (kB _ (hT.below (by first | go_grown | (repeat (first | exact hB2 | refine Below.alloc ?_ (by simp [World.setCell]; omega) _ | refine below_set ?_ (by omega)))))).mono ?_
      rintro e w3 ⟨rfl, hb3⟩
      have z3 : w1.heap.size < w3.heap.size := Nat.lt_of_lt_of_le (by first | omega | (simp; done) | (simp [World.setCell]; done) | (simp; omega) | (simp [World.setCell]; omega)) hb3.size
      have z4 : w.heap.size < w3.heap.size := by omega
      have q30 : w3.cell? ⟨w.heap.size, 0, none⟩ = some (.int .i64 0) := (hb3.cell (p := ⟨w.heap.size, 0, none⟩) (by first | omega | (simp; done) | (simp [World.setCell]; done) | (simp; omega) | (simp [World.setCell]; omega))).trans (by go_cell)
      have g30 : w3.frozen? ⟨w.heap.size, 0, none⟩ = false := (hb3.frozen (p := ⟨w.heap.size, 0, none⟩) (by first | omega | (simp; done) | (simp [World.setCell]; done) | (simp; omega) | (simp [World.setCell]; omega))).trans (by go_simp)
      have q31 : w3.cell? ⟨w.heap.size, 1, none⟩ = some (.int .i64 0) := (hb3.cell (p := ⟨w.heap.size, 1, none⟩) (by first | omega | (simp; done) | (simp [World.setCell]; done) | (simp; omega) | (simp [World.setCell]; omega))).trans (by go_cell)
      have g31 : w3.frozen? ⟨w.heap.size, 1, none⟩ = false := (hb3.frozen (p := ⟨w.heap.size, 1, none⟩) (by first | omega | (simp; done) | (simp [World.setCell]; done) | (simp; omega) | (simp [World.setCell]; omega))).trans (by go_simp)
      have q32 : w3.cell? ⟨w1.heap.size, 0, none⟩ = some (.int .i64 P) := (hb3.cell (p := ⟨w1.heap.size, 0, none⟩) (by first | omega | (simp; done) | (simp [World.setCell]; done) | (simp; omega) | (simp [World.setCell]; omega))).trans (by go_cell)
      have g32 : w3.frozen? ⟨w1.heap.size, 0, none⟩ = false := (hb3.frozen (p := ⟨w1.heap.size, 0, none⟩) (by first | omega | (simp; done) | (simp [World.setCell]; done) | (simp; omega) | (simp [World.setCell]; omega))).trans (by go_simp)
      have q33 : w3.cell? ⟨w1.heap.size, 1, none⟩ = some (.int .i64 0) := (hb3.cell (p := ⟨w1.heap.size, 1, none⟩) (by first | omega | (simp; done) | (simp [World.setCell]; done) | (simp; omega) | (simp [World.setCell]; omega))).trans (by go_cell)
      have g33 : w3.frozen? ⟨w1.heap.size, 1, none⟩ = false := (hb3.frozen (p := ⟨w1.heap.size, 1, none⟩) (by first | omega | (simp; done) | (simp [World.setCell]; done) | (simp; omega) | (simp [World.setCell]; omega))).trans (by go_simp)
      have hB3 : Below w.heap.size w w3 := Below.trans (by first | go_grown | (repeat (first | exact hB2 | refine Below.alloc ?_ (by simp [World.setCell]; omega) _ | refine below_set ?_ (by omega)))) (hb3.mono (by go_size))
      clear hb3 q20 g20 q21 g21 q22 g22 q23 g23
      go_wp2_with fail
      with_reducible refine (kt _ (hT.below (by first | go_grown | (repeat (first | exact hB3 | refine Below.alloc ?_ (by simp [World.setCell]; omega) _ | refine below_set ?_ (by omega))))).pow).mono ?_
      rintro e w4 ⟨rfl, hb4⟩
      have za4 : w1.heap.size < w4.heap.size := Nat.lt_of_lt_of_le (by first | omega | (simp; done) | (simp [World.setCell]; done) | (simp; omega) | (simp [World.setCell]; omega)) hb4.size
      have zb4 : w.heap.size < w4.heap.size := by omega
      have q40 : w4.cell? ⟨w.heap.size, 0, none⟩ = some (.int .i64 0) := (hb4.cell (p := ⟨w.heap.size, 0, none⟩) (by first | omega | (simp; done) | (simp [World.setCell]; done) | (simp; omega) | (simp [World.setCell]; omega))).trans (by go_cell)
      have g40 : w4.frozen? ⟨w.heap.size, 0, none⟩ = false := (hb4.frozen (p := ⟨w.heap.size, 0, none⟩) (by first | omega | (simp; done) | (simp [World.setCell]; done) | (simp; omega) | (simp [World.setCell]; omega))).trans (by go_simp)
      have q41 : w4.cell? ⟨w.heap.size, 1, none⟩ = some (.int .i64 0) := (hb4.cell (p := ⟨w.heap.size, 1, none⟩) (by first | omega | (simp; done) | (simp [World.setCell]; done) | (simp; omega) | (simp [World.setCell]; omega))).trans (by go_cell)
      have g41 : w4.frozen? ⟨w.heap.size, 1, none⟩ = false := (hb4.frozen (p := ⟨w.heap.size, 1, none⟩) (by first | omega | (simp; done) | (simp [World.setCell]; done) | (simp; omega) | (simp [World.setCell]; omega))).trans (by go_simp)
      have q42 : w4.cell? ⟨w1.heap.size, 0, none⟩ = some (.int .i64 P) := (hb4.cell (p := ⟨w1.heap.size, 0, none⟩) (by first | omega | (simp; done) | (simp [World.setCell]; done) | (simp; omega) | (simp [World.setCell]; omega))).trans (by go_cell)
      have g42 : w4.frozen? ⟨w1.heap.size, 0, none⟩ = false := (hb4.frozen (p := ⟨w1.heap.size, 0, none⟩) (by first | omega | (simp; done) | (simp [World.setCell]; done) | (simp; omega) | (simp [World.setCell]; omega))).trans (by go_simp)
      have q43 : w4.cell? ⟨w1.heap.size, 1, none⟩ = some (.int .i64 Q) := (hb4.cell (p := ⟨w1.heap.size, 1, none⟩) (by first | omega | (simp; done) | (simp [World.setCell]; done) | (simp; omega) | (simp [World.setCell]; omega))).trans (by go_cell)
      have g43 : w4.frozen? ⟨w1.heap.size, 1, none⟩ = false := (hb4.frozen (p := ⟨w1.heap.size, 1, none⟩) (by first | omega | (simp; done) | (simp [World.setCell]; done) | (simp; omega) | (simp [World.setCell]; omega))).trans (by go_simp)
      have hB4 : Below w.heap.size w w4 := Below.trans (by first | go_grown | (repeat (first | exact hB3 | refine Below.alloc ?_ (by simp [World.setCell]; omega) _ | refine below_set ?_ (by omega)))) (hb4.mono (by go_size))
      clear hb4
      go_wp2_with fail
      refine bodyPost_ret (by simp [results, Tryd.results27, go_sem, *]; try rfl) rfl ?_
      first
        | exact ⟨rfl, (by first | go_grown | (repeat (first | exact hB5 | refine Below.alloc ?_ (by simp [World.setCell]; omega) _ | refine below_set ?_ (by omega))))⟩
        | exact ⟨rfl, (by first | go_grown | (repeat (first | exact hB4 | refine Below.alloc ?_ (by simp [World.setCell]; omega) _ | refine below_set ?_ (by omega))))⟩
        | exact ⟨rfl, (by first | go_grown | (repeat (first | exact hB3 | refine Below.alloc ?_ (by simp [World.setCell]; omega) _ | refine below_set ?_ (by omega))))⟩

end Go.Proofs.YtdhjnpjemaofoaaDoor
