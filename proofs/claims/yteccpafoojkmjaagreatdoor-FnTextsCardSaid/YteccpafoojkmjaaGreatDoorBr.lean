/-
  Contracts: a brake drawn; numbers that an input chooses.
-/
import Derived.Test.YteccpafoojkmjaaGreatDoorSrc
import Derived.Test.YteccpafoojkmjaaGreatDoorM1
namespace Go.Proofs.YteccpafoojkmjaaGreatDoor
open Go.RowKit
set_option linter.unusedVariables false
set_option linter.unusedSimpArgs false

theorem Keep.cellk {lo hi b o : Nat} {w w' : World} (k : Keep lo hi w w') (hb : b < w.heap.size) (hn : ¬ (lo ≤ b ∧ b < hi)) : w'.cell? ⟨b, o, none⟩ = w.cell? ⟨b, o, none⟩ := World.cell?_of_block (a := ⟨b, o, none⟩) (k.block b hb hn)
theorem Keep.frozenk {lo hi b o : Nat} {w w' : World} (k : Keep lo hi w w') (hb : b < w.heap.size) (hn : ¬ (lo ≤ b ∧ b < hi)) : w'.frozen? ⟨b, o, none⟩ = w.frozen? ⟨b, o, none⟩ := World.frozen?_of_block (a := ⟨b, o, none⟩) (k.block b hb hn)
theorem Keep.setFresh {lo hi g j B : Nat} {w w' : World} {u : Value} (h : Keep lo hi w w') (hB : w.heap.size ≤ g) : Keep lo hi w (w'.setCell ⟨g, j, none⟩ u) :=
  ⟨h.os, h.tape, h.output, by simpa [World.setCell] using h.size, fun k hk hne => (Below.heap_setCell w' ⟨g, j, none⟩ u k (fun e => by simp at e; omega)).trans (h.block k hk hne)⟩

theorem laws_r8Long (a a' : Option Addr) (n n' c c' : Nat) (w : World) : Calls Tryz.prog 4 #[.slice a n c, .slice a' n' c'] w fun e w' => e = .returned (.bool (decide (1048576 < n) || decide (1048576 < n'))) ∧ w = w' := by
  have e1 : decide (1048576 < n) = decide ((1048576 : Int) < (n : Int)) := by congr 1; exact propext (by omega)
  have e2 : decide (1048576 < n') = decide ((1048576 : Int) < (n' : Int)) := by congr 1; exact propext (by omega)
  rw [e1, e2]
  clear e1 e2
  by_cases h1 : (1048576 : Int) < (n : Int) <;> by_cases h2 : (1048576 : Int) < (n' : Int)
  all_goals
    first | rw [decide_eq_true h1] | rw [decide_eq_false h1]
    first | rw [decide_eq_true h2] | rw [decide_eq_false h2]
    go_enter Tryz.func4, Tryz.ntmps4
    go_wp2
    go_returns
    exact ⟨rfl, rfl⟩

set_option maxHeartbeats 1000000 in
theorem spec_l11Draw (g : Nat) (w : World) (h : SrcAt w g 0) :
    Calls Tryz.prog 23 #[.pointer (some ⟨g, 0, none⟩)] w fun e w' => ∃ d f, e = .returned (.agg #[.int .i64 d, .int .i64 f]) ∧ 0 ≤ d ∧ d ≤ 14 ∧ 500 ≤ f ∧ f ≤ 8400 ∧ Keep g (g + 1) w w' := by
  have hg := h.lt
  have H := Lib.hid h
  clear h
  go_enter Tryz.func23, Tryz.ntmps23
  go_wp2_with fail
  refine (spec_pick g 0 15 _ (H.out.below (by go_grown)) (by omega) (by omega)).mono ?_
  rintro e w1 ⟨d, A1, rfl, d0, d1, a0, a1, H1, K1⟩
  have HH := Lib.hid H1
  have s1 : w.heap.size < w1.heap.size := Nat.lt_of_lt_of_le (by simp) K1.size
  have r0 : w1.cell? ⟨w.heap.size, 0, none⟩ = some (.int .i64 0) := (K1.cellk (by simp) (by omega)).trans (by go_cell)
  have r1 : w1.cell? ⟨w.heap.size, 1, none⟩ = some (.int .i64 0) := (K1.cellk (by simp) (by omega)).trans (by go_cell)
  have f0 : w1.frozen? ⟨w.heap.size, 0, none⟩ = false := (K1.frozenk (by simp) (by omega)).trans (by go_simp)
  have f1 : w1.frozen? ⟨w.heap.size, 1, none⟩ = false := (K1.frozenk (by simp) (by omega)).trans (by go_simp)
  have KK1 : Keep g (g + 1) w w1 := (Keep.of_below (by go_grown)).trans K1
  clear H1 K1
  go_wp2_with fail
  refine (spec_pick g A1 80 _ (HH.out.below (by go_grown)) (by omega) (by omega)).mono ?_
  rintro e w2 ⟨k, A2, rfl, k0, k1, _, _, H2, K2⟩
  have s2 : w1.heap.size < w2.heap.size := Nat.lt_of_lt_of_le (by simp) K2.size
  have q0 : w2.cell? ⟨w.heap.size, 0, none⟩ = some (.int .i64 0) := (K2.cellk (by simp; omega) (by omega)).trans (by go_cell)
  have q1 : w2.cell? ⟨w.heap.size, 1, none⟩ = some (.int .i64 0) := (K2.cellk (by simp; omega) (by omega)).trans (by go_cell)
  have p0 : w2.cell? ⟨w1.heap.size, 0, none⟩ = some (.int .i64 d) := (K2.cellk (by simp) (by omega)).trans (by go_cell)
  have p1 : w2.cell? ⟨w1.heap.size, 1, none⟩ = some (.int .i64 0) := (K2.cellk (by simp) (by omega)).trans (by go_cell)
  have g0 : w2.frozen? ⟨w.heap.size, 0, none⟩ = false := (K2.frozenk (by simp; omega) (by omega)).trans (by go_simp)
  have g1 : w2.frozen? ⟨w.heap.size, 1, none⟩ = false := (K2.frozenk (by simp; omega) (by omega)).trans (by go_simp)
  have g2 : w2.frozen? ⟨w1.heap.size, 1, none⟩ = false := (K2.frozenk (by simp) (by omega)).trans (by go_simp)
  have KK2 : Keep g (g + 1) w w2 := (KK1.alloc).trans K2
  clear H2 K2 r0 r1 f0 f1
  have d1' := d1 (by omega)
  have k1' := k1 (by omega)
  have s3 : w.heap.size < w2.heap.size := by omega
  go_wp2_with fail
  refine bodyPost_ret (by simp [results, Tryz.results23, go_sem, *]; try rfl) rfl ?_
  refine ⟨d, 500 + 100 * k, rfl, d0, by omega, by omega, by omega, ?_⟩
  repeat (first | exact KK2 | refine Keep.setFresh (B := 0) ?_ (by omega))

theorem spec_R8Brake (a : Option Addr) (n c : Nat) (w : World) (h : BytesAt w a n) (hn : n ≤ 1048576) :
    Calls Tryz.prog 7 #[.slice a n c] w fun e w' => ∃ d f, e = .returned (.agg #[.int .i64 d, .int .i64 f]) ∧ 0 ≤ d ∧ d ≤ 14 ∧ 500 ≤ f ∧ f ≤ 8400 ∧ Below w.heap.size w w' := by
  have H := Lib.hid h
  clear h
  go_enter Tryz.func7, Tryz.ntmps7
  go_wp2_with fail
  refine (spec_l00From a n c _ (H.out.below (by go_grown)) hn).mono ?_
  rintro e w1 ⟨g, rfl, hg, HS, hb⟩
  have s1 : w.heap.size < w1.heap.size := Nat.lt_of_lt_of_le (by simp) hb.size
  have r0 : w1.cell? ⟨w.heap.size, 0, none⟩ = some (.int .i64 0) := (hb.cell (p := ⟨w.heap.size, 0, none⟩) (by simp)).trans (by go_cell)
  have r1 : w1.cell? ⟨w.heap.size, 1, none⟩ = some (.int .i64 0) := (hb.cell (p := ⟨w.heap.size, 1, none⟩) (by simp)).trans (by go_cell)
  have f0 : w1.frozen? ⟨w.heap.size, 0, none⟩ = false := (hb.frozen (p := ⟨w.heap.size, 0, none⟩) (by simp)).trans (by go_simp)
  have f1 : w1.frozen? ⟨w.heap.size, 1, none⟩ = false := (hb.frozen (p := ⟨w.heap.size, 1, none⟩) (by simp)).trans (by go_simp)
  have hg2 : w.heap.size < g := by simp at hg; omega
  have hB1 : Below w.heap.size w w1 := Below.trans (by go_grown) (hb.mono (by go_size))
  have HS2 := Lib.hid HS
  clear hb HS hg
  go_wp2_with fail
  refine (spec_l11Draw g _ HS2.out).mono ?_
  rintro e w2 ⟨d, f, rfl, d0, d1, e0, e1, K⟩
  have s2 : w.heap.size < w2.heap.size := Nat.lt_of_lt_of_le s1 K.size
  have q0 := (K.cellk (b := w.heap.size) (o := 0) s1 (by omega)).trans r0
  have q1 := (K.cellk (b := w.heap.size) (o := 1) s1 (by omega)).trans r1
  have g0 := (K.frozenk (b := w.heap.size) (o := 0) s1 (by omega)).trans f0
  have g1 := (K.frozenk (b := w.heap.size) (o := 1) s1 (by omega)).trans f1
  have hB2 : Below w.heap.size w w2 := hB1.trans (K.below (by omega) hB1.size)
  clear r0 r1 f0 f1 K
  go_wp2_with fail
  refine bodyPost_ret (by simp [results, Tryz.results7, go_sem, *]; try rfl) rfl ?_
  exact ⟨d, f, rfl, d0, d1, e0, e1, below_set (below_set hB2 (by omega)) (by omega)⟩

end Go.Proofs.YteccpafoojkmjaaGreatDoor
