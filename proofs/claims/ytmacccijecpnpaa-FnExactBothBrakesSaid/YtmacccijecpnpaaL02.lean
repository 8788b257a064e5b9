/-
  The walk of the law over BothBrakes.
-/
import Derived.Test.YtmacccijecpnpaaKD
import Derived.Test.YtmacccijecpnpaaQt
import Derived.Test.YtmacccijecpnpaaKX
import Derived.Deep.DeepCutAuto
namespace Go.Proofs.Ytmacccijecpnpaa
open Go.RowKit
set_option linter.unusedVariables false
set_option linter.unusedSimpArgs false


set_option maxHeartbeats 1000000 in
theorem law_FnExactBothBrakes (d f d' f' : Int) (w : World) : Calls Try.prog 13 #[.agg #[.int .i64 d, .int .i64 f], .agg #[.int .i64 d', .int .i64 f']] w fun e w' => e = .returned (.bool true) ∧ Below w.heap.size w w' := by
  have cs := fun W => spec_BothBrakes d f d' f' W
  have ci := fun W => impl_BothBrakes d f d' f' W
  generalize bothDelay d f d' f' = D at *
  generalize bothDecel d f d' f' = E at *
  generalize bothCode d f d' f' = C at *
  go_enter Try.func13, Try.ntmps13
  go_upto_region 1 with fail
  go_cut [5, 6] (fun s5 s6 W => ∃ g : Nat, s5 = .pointer (some ⟨g, 0, none⟩) ∧ s6 = .int .i64 C ∧ W.cell? ⟨g, 0, none⟩ = some (.int .i64 D) ∧ W.cell? ⟨g, 1, none⟩ = some (.int .i64 E) ∧ g < W.heap.size ∧ W.cell? ⟨w.heap.size, 0, none⟩ = some (.int .i64 d) ∧ W.cell? ⟨w.heap.size, 1, none⟩ = some (.int .i64 f) ∧ W.cell? ⟨w.heap.size + 1, 0, none⟩ = some (.int .i64 d') ∧ W.cell? ⟨w.heap.size + 1, 1, none⟩ = some (.int .i64 f') ∧ w.heap.size + 1 < W.heap.size ∧ Below w.heap.size w W)
  case first =>
    go_region_held3 (fun W => W.cell? ⟨w.heap.size, 0, none⟩ = some (.int .i64 d) ∧ W.cell? ⟨w.heap.size, 1, none⟩ = some (.int .i64 f) ∧ W.cell? ⟨w.heap.size + 1, 0, none⟩ = some (.int .i64 d') ∧ W.cell? ⟨w.heap.size + 1, 1, none⟩ = some (.int .i64 f') ∧ w.heap.size < W.heap.size ∧ w.heap.size + 1 < W.heap.size ∧ Below w.heap.size w W) (first | (refine ⟨?_, ?_, ?_, ?_, ?_, ?_, ?_⟩ <;> (repeat' (first | (with_reducible assumption) | (with_reducible refine cell_far ?_ ?_) | (with_reducible refine cell_old ?_ (by first | (with_reducible assumption) | omega | (simp; done) | (simp; omega))) | (with_reducible refine cell_drew ?_) | omega | (simp only [World.size_alloc, World.size_setCell, World.size_drew]; omega) | (with_reducible refine below_set ?_ ?_) | (with_reducible refine Below.alloc ?_ ?_ _) | (with_reducible refine Below.drew ?_) | (with_reducible exact Below.refl _ _) | omega | (go_cell; done) | (simp; done) | (simp; omega))); done) | ((repeat' (first | (with_reducible assumption) | (with_reducible refine cell_far ?_ ?_) | (with_reducible refine cell_old ?_ (by first | (with_reducible assumption) | omega | (simp; done) | (simp; omega))) | (with_reducible refine cell_drew ?_) | omega | (simp only [World.size_alloc, World.size_setCell, World.size_drew]; omega) | (with_reducible refine below_set ?_ ?_) | (with_reducible refine Below.alloc ?_ ?_ _) | (with_reducible refine Below.drew ?_) | (with_reducible exact Below.refl _ _) | omega | (go_cell; done) | (simp; done) | (simp; omega))); done)) (first | (go_at_call 16; (with_reducible refine (laws_toBrake_x _ _ _).mono ?_); rintro e' w1 ⟨rfl, rfl⟩) | (go_at_call 49; obtain ⟨s0, s1, s2, s3, z0, z1, sB⟩ := ‹_ ∧ _ ∧ _ ∧ _ ∧ _ ∧ _ ∧ _›; (with_reducible refine (cs _).mono ?_); rintro e' w1 ⟨rfl, hb⟩; have z0' : w.heap.size < w1.heap.size := Nat.lt_of_lt_of_le z0 hb.size; have z1' : w.heap.size + 1 < w1.heap.size := Nat.lt_of_lt_of_le z1 hb.size; have s0' := (hb.cell (p := ⟨w.heap.size, 0, none⟩) z0).trans s0; have s1' := (hb.cell (p := ⟨w.heap.size, 1, none⟩) z0).trans s1; have s2' := (hb.cell (p := ⟨w.heap.size + 1, 0, none⟩) z1).trans s2; have s3' := (hb.cell (p := ⟨w.heap.size + 1, 1, none⟩) z1).trans s3; have sB' : Below w.heap.size w w1 := Below.trans sB (hb.mono sB.size); have hq := sB'.size; obtain ⟨hc, hf, hs⟩ := bkeep hb; clear hb))
    all_goals
      go_wp2_with fail
      go_meet
      obtain ⟨s0, s1, s2, s3, z0, z1, sB⟩ := ‹_ ∧ _ ∧ _ ∧ _ ∧ _ ∧ _ ∧ _›
      refine ⟨_, rfl, rfl, ?_, ?_, ?_, s0, s1, s2, s3, z1, sB⟩
      all_goals first | (go_simp; done) | (simp; done) | (simp; omega)
  case rest =>
    obtain ⟨g, rfl, rfl, g0, g1, gl, s0, s1, s2, s3, z1, sB⟩ := hcut
    go_upto_region 2 with fail
    go_cut [7, 8] (fun s7 s8 W => ∃ k : Nat, s7 = .pointer (some ⟨k, 0, none⟩) ∧ s8 = .int .i64 C ∧ W.cell? ⟨k, 0, none⟩ = some (.int .i64 D) ∧ W.cell? ⟨k, 1, none⟩ = some (.int .i64 E) ∧ k < W.heap.size ∧ W.cell? ⟨g, 0, none⟩ = some (.int .i64 D) ∧ W.cell? ⟨g, 1, none⟩ = some (.int .i64 E) ∧ g < W.heap.size ∧ Below w.heap.size w W)
    case first =>
      go_region_held3 (fun W => W.cell? ⟨w.heap.size, 0, none⟩ = some (.int .i64 d) ∧ W.cell? ⟨w.heap.size, 1, none⟩ = some (.int .i64 f) ∧ W.cell? ⟨w.heap.size + 1, 0, none⟩ = some (.int .i64 d') ∧ W.cell? ⟨w.heap.size + 1, 1, none⟩ = some (.int .i64 f') ∧ W.cell? ⟨g, 0, none⟩ = some (.int .i64 D) ∧ W.cell? ⟨g, 1, none⟩ = some (.int .i64 E) ∧ g < W.heap.size ∧ w.heap.size < W.heap.size ∧ w.heap.size + 1 < W.heap.size ∧ Below w.heap.size w W) (first | (refine ⟨?_, ?_, ?_, ?_, ?_, ?_, ?_, ?_, ?_, ?_⟩ <;> (repeat' (first | (with_reducible assumption) | (with_reducible refine cell_far ?_ ?_) | (with_reducible refine cell_old ?_ (by first | (with_reducible assumption) | omega | (simp; done) | (simp; omega))) | (with_reducible refine cell_drew ?_) | omega | (simp only [World.size_alloc, World.size_setCell, World.size_drew]; omega) | (with_reducible refine below_set ?_ ?_) | (with_reducible refine Below.alloc ?_ ?_ _) | (with_reducible refine Below.drew ?_) | (with_reducible exact Below.refl _ _) | omega | (go_cell; done) | (simp; done) | (simp; omega))); done) | ((repeat' (first | (with_reducible assumption) | (with_reducible refine cell_far ?_ ?_) | (with_reducible refine cell_old ?_ (by first | (with_reducible assumption) | omega | (simp; done) | (simp; omega))) | (with_reducible refine cell_drew ?_) | omega | (simp only [World.size_alloc, World.size_setCell, World.size_drew]; omega) | (with_reducible refine below_set ?_ ?_) | (with_reducible refine Below.alloc ?_ ?_ _) | (with_reducible refine Below.drew ?_) | (with_reducible exact Below.refl _ _) | omega | (go_cell; done) | (simp; done) | (simp; omega))); done)) (first | (go_at_call 16; (with_reducible refine (laws_toBrake_x _ _ _).mono ?_); rintro e' w1 ⟨rfl, rfl⟩) | (go_at_call 41; obtain ⟨s0, s1, s2, s3, s4, s5, z0, z1, z2, sB⟩ := ‹_ ∧ _ ∧ _ ∧ _ ∧ _ ∧ _ ∧ _ ∧ _ ∧ _ ∧ _›; (with_reducible refine (ci _).mono ?_); rintro e' w1 ⟨rfl, hb⟩; have z0' : g < w1.heap.size := Nat.lt_of_lt_of_le z0 hb.size; have z1' : w.heap.size < w1.heap.size := Nat.lt_of_lt_of_le z1 hb.size; have z2' : w.heap.size + 1 < w1.heap.size := Nat.lt_of_lt_of_le z2 hb.size; have s0' := (hb.cell (p := ⟨w.heap.size, 0, none⟩) z1).trans s0; have s1' := (hb.cell (p := ⟨w.heap.size, 1, none⟩) z1).trans s1; have s2' := (hb.cell (p := ⟨w.heap.size + 1, 0, none⟩) z2).trans s2; have s3' := (hb.cell (p := ⟨w.heap.size + 1, 1, none⟩) z2).trans s3; have s4' := (hb.cell (p := ⟨g, 0, none⟩) z0).trans s4; have s5' := (hb.cell (p := ⟨g, 1, none⟩) z0).trans s5; have sB' : Below w.heap.size w w1 := Below.trans sB (hb.mono sB.size); have hq := sB'.size; obtain ⟨hc, hf, hs⟩ := bkeep hb; clear hb))
      all_goals
        go_wp2_with fail
        go_meet
        obtain ⟨s0, s1, s2, s3, s4, s5, z0, z1, z2, sB⟩ := ‹_ ∧ _ ∧ _ ∧ _ ∧ _ ∧ _ ∧ _ ∧ _ ∧ _ ∧ _›
        refine ⟨_, rfl, rfl, ?_, ?_, ?_, s4, s5, z0, sB⟩
        all_goals first | (go_simp; done) | (simp; done) | (simp; omega) | (refine cell_off (cell_same (x := .int .i64 0) ?_) (by decide); go_simp; done) | (refine cell_same (x := .int .i64 0) (cell_off ?_ (by decide)); go_simp; done)
    case rest =>
      obtain ⟨k, rfl, rfl, k0, k1, kl, g0, g1, gl, sB⟩ := hcut
      go_wp2_with (go_at_call 50; refine (laws_eqBrake_same _ _ _).mono ?_; rintro e' w' ⟨rfl, hb⟩; have hB : Below w.heap.size w w' := sB.trans (hb.mono sB.size))
      go_returns
      exact ⟨rfl, by go_grown⟩

end Go.Proofs.Ytmacccijecpnpaa
