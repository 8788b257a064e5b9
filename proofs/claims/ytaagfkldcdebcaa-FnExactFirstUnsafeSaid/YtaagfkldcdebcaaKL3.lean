/-
  Contracts: copies and comparisons of tracks.
-/
import Derived.Test.YtaagfkldcdebcaaKK3
namespace Go.Proofs.Ytaagfkldcdebcaa
open Go.RowKit
set_option linter.unusedVariables false
set_option linter.unusedSimpArgs false


theorem laws_szTrack_ok (a : Option Addr) (n c : Nat) (lf lu : Int) (w : World) (hn : n ≤ 1048576) :
    Calls Try.prog 8 #[.agg #[.slice a n c, .int .i64 lf, .int .i64 lu], .int .i64 1048576] w fun e w' => e = .returned (.int .i64 (1048576 - n)) ∧ Below w.heap.size w w' := by
  have k := fun W => laws_szSectionS_ok a n c W hn
  have h : ¬ (1048576 - (n : Int) < 0) := by omega
  go_enter Try.func8, Try.ntmps8
  go_wp2_with (go_at_call 35; (with_reducible refine (k _).mono ?_); rintro e w' ⟨rfl, rfl⟩)
  go_returns
  exact ⟨rfl, by go_grown⟩
theorem laws_szTrack_no (a : Option Addr) (n c : Nat) (lf lu : Int) (w : World) (hn : ¬ n ≤ 1048576) (hm : n ≤ 9223372036854775807) :
    Calls Try.prog 8 #[.agg #[.slice a n c, .int .i64 lf, .int .i64 lu], .int .i64 1048576] w fun e w' => e = .returned (.int .i64 (-1)) ∧ Below w.heap.size w w' := by
  have k := fun W => laws_szSectionS_no a n c W hn hm
  go_enter Try.func8, Try.ntmps8
  go_wp2_with (go_at_call 35; (with_reducible refine (k _).mono ?_); rintro e w' ⟨rfl, rfl⟩)
  go_returns
  exact ⟨rfl, by go_grown⟩

set_option maxHeartbeats 1000000 in
theorem laws_toTrack_in {lo hi : Nat} (a : Option Addr) (n c : Nat) (L G : Nat → Int) (lf lu : Int) (w : World) (h : CellsIn lo hi w a (2 * n) (psV L G)) (hn : n ≤ 1048576) :
    Calls Try.prog 10 #[.agg #[.slice a n c, .int .i64 lf, .int .i64 lu]] w fun e w' => ∃ a' c', e = .returned (.agg #[.slice a' n c', .int .i64 lf, .int .i64 lu]) ∧ OwnIn w.heap.size w'.heap.size w' a' (2 * n) (psV L G) ∧ Below w.heap.size w w' := by
  have k := fun W h => laws_toSectionS_in (lo := lo) (hi := hi) a n c L G W h hn
  go_enter Try.func10, Try.ntmps10
  go_wp2_with (go_at_call 38; (with_reducible refine (k _ (h.below (by go_grown))).mono ?_); rintro e' w1 ⟨a1, c1, rfl, ho, hb⟩; have hB : Below w.heap.size w w1 := Below.trans (by go_grown) (hb.mono (by go_size)); obtain ⟨hc, hf, hs⟩ := bkeep hb; have hsz := hb.size; simp at hsz)
  refine bodyPost_ret (by simp [results, Try.results10, go_sem, *]; try rfl) rfl ?_
  refine ⟨_, _, rfl, ?_, by go_grown⟩
  refine (OwnIn.keep (lo' := w.heap.size) (hi' := w.heap.size + 3) ho ?_ (Or.inr (by simp))).mono (by simp; omega) (by simp [World.setCell])
  repeat refine Keep.set ?_ (by omega) (by omega)
  exact Keep.refl _ _ _

theorem laws_eqTrack_in {lo hi lo' hi' : Nat} (a a' : Option Addr) (n c c' : Nat) (L G : Nat → Int) (lf lu : Int) (w : World) (h : CellsIn lo hi w a (2 * n) (psV L G)) (h' : CellsIn lo' hi' w a' (2 * n) (psV L G)) (hn : n ≤ 1048576) :
    Calls Try.prog 13 #[.agg #[.slice a n c, .int .i64 lf, .int .i64 lu], .agg #[.slice a' n c', .int .i64 lf, .int .i64 lu]] w fun e w' => e = .returned (.bool true) ∧ Below w.heap.size w w' := by
  have k := fun W h h' => laws_eqSectionS_in (lo := lo) (hi := hi) (lo' := lo') (hi' := hi') a a' n c c' L G W h h' hn
  go_enter Try.func13, Try.ntmps13
  go_wp2_with (go_at_call 46; (with_reducible refine (k _ (h.below (by go_grown)) (h'.below (by go_grown))).mono ?_); rintro e w' ⟨rfl, hb⟩; obtain ⟨hc, hf⟩ := bcell hb; have hz : w.heap.size < w'.heap.size := (by have := hb.size; (try simp at this); omega); have hz1 : w.heap.size + 1 < w'.heap.size := (by have := hb.size; (try simp at this); omega); have hB : Below w.heap.size w w' := Below.trans (by go_grown) (hb.mono (by go_size)))
  go_returns
  exact ⟨rfl, hB⟩

end Go.Proofs.Ytaagfkldcdebcaa
