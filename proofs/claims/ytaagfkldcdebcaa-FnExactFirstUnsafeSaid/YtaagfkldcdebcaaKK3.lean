/-
  Contracts: copies, comparisons and marks of slices of sections.
-/
import Derived.Test.YtaagfkldcdebcaaKA
import Derived.Test.YtaagfkldcdebcaaQu
import Derived.Lib.Hide
import Derived.Test.YtaagfkldcdebcaaPr
import Derived.Laws.MakeOwn
namespace Go.Proofs.Ytaagfkldcdebcaa
open Go.RowKit
set_option linter.unusedVariables false
set_option linter.unusedSimpArgs false

theorem row_next_Section (L : Nat → Int) (G : Nat → Int) (M : Nat → Value) (k q : Nat) : (if q = k * 2 + 1 then .int .i64 (G k) else (if q = k * 2 then .int .i64 (L k) else if q < 2 * k then psV L G q else M q)) = if q < 2 * (k + 1) then psV L G q else M q := by
  by_cases e1 : q = k * 2 + 1
  · subst e1; rw [if_pos rfl, if_pos (by omega), psV_1]
  by_cases e0 : q = k * 2
  · subst e0; rw [if_neg (by omega), if_pos rfl, if_pos (by omega), psV_0]
  rw [if_neg e1, if_neg e0]
  by_cases h : q < 2 * k
  · rw [if_pos h, if_pos (by omega)]
  · rw [if_neg h, if_neg (by omega)]

theorem laws_toSection_x (i j : Int) (w : World) : Calls Try.prog 81 #[.agg #[.int .i64 (i), .int .i64 (j)]] w fun e' w' => e' = .returned (.agg #[.int .i64 i, .int .i64 j]) ∧ ((w.alloc (.cells #[.int .i64 i, .int .i64 j] 103)).alloc (.cells #[.int .i64 i, .int .i64 j] 58)).alloc (.cells #[.int .i64 i, .int .i64 j] 58) = w' := by
  go_enter Try.func81, Try.ntmps81
  go_wp2
  go_returns
  exact ⟨rfl, rfl⟩

theorem laws_szSectionS_ok (a : Option Addr) (n c : Nat) (w : World) (hn : n ≤ 1048576) :
    Calls Try.prog 35 #[.slice a n c, .int .i64 1048576] w fun e w' => e = .returned (.int .i64 (1048576 - n)) ∧ w = w' := by
  have h : ¬ (1048576 - (n : Int) < 0) := by omega
  have hm : n ≤ 9223372036854775807 := by omega
  go_enter Try.func35, Try.ntmps35
  go_wp2
  go_returns
  exact ⟨rfl, rfl⟩
theorem laws_szSectionS_no (a : Option Addr) (n c : Nat) (w : World) (hn : ¬ n ≤ 1048576) (hm : n ≤ 9223372036854775807) :
    Calls Try.prog 35 #[.slice a n c, .int .i64 1048576] w fun e w' => e = .returned (.int .i64 (-1)) ∧ w = w' := by
  have h : 1048576 - (n : Int) < 0 := by omega
  go_enter Try.func35, Try.ntmps35
  go_wp2
  go_returns
  exact ⟨rfl, rfl⟩

theorem laws_eqSection_one (l : Int) (g : Int) (w : World) : Calls Try.prog 82 #[.agg #[.int .i64 (l), .int .i64 (g)], .agg #[.int .i64 (l), .int .i64 (g)]] w fun e w' => e = .returned (.bool true) ∧ Below w.heap.size w w' := by
  go_enter Try.func82, Try.ntmps82
  go_wp2
  go_returns
  exact ⟨rfl, by go_grown⟩

theorem made_Section (n : Nat) (hn : n ≤ 1048576) : ∃ M : Array Value, M.size = 2 * n ∧ ∀ W, (Instr.makeSlice 30 (.int .i64 n) (.int .i64 n)).run Try.prog W = .ok (.slice (some ⟨W.heap.size, 0, none⟩) n n) (W.alloc (.cells M 58)) := by
  obtain ⟨i0, hi, hz0, hz1, hz2⟩ := info_parts (show (Try.prog.info? 58).map (fun i => (i.zero, i.size, i.bytes)) = some (some (.agg #[.int .i64 0, .int .i64 0]), 2, 16) by kernel_rfl)
  refine ⟨madeCells (Value.cells (.agg #[.int .i64 0, .int .i64 0])) (n * 2), by rw [size_madeCells]; omega, fun W => ?_⟩
  have h := run_make (P := Try.prog) W 30 58 i0 (.agg #[.int .i64 0, .int .i64 0]) Try.underlying30 hi hz0 .i64 .i64 n n (by omega) (Int.le_refl _) (by rw [hz2]; omega) (by omega)
  rw [hz1] at h
  simpa using h
theorem laws_toSection_b (l : Int) (g : Int) (w : World) : Calls Try.prog 81 #[.agg #[.int .i64 (l), .int .i64 (g)]] w fun e w' => e = .returned (.agg #[.int .i64 (l), .int .i64 (g)]) ∧ Below w.heap.size w w' :=
  (laws_toSection_x l g w).mono fun _ _ ⟨h, hw⟩ => ⟨h, by rw [← hw]; go_grown⟩
set_option maxHeartbeats 1000000 in
theorem laws_toSectionS_in {lo hi : Nat} (a : Option Addr) (n c : Nat) (L : Nat → Int) (G : Nat → Int) (w : World) (h : CellsIn lo hi w a (2 * n) (psV L G)) (hn : n ≤ 1048576) :
    Calls Try.prog 38 #[.slice a n c] w (RetSlice (2 * n) n (psV L G) w) := by
  have hp := h.pass
  obtain ⟨M, hM, hmk⟩ := made_Section n hn
  go_enter Try.func38, Try.ntmps38
  go_wp2
  go_loopw [4] (fun i wr => ∃ k : Nat, k ≤ n ∧ i = .int .i64 k ∧ OwnIn w.heap.size (w.heap.size + 1) wr (some ⟨w.heap.size, 0, none⟩) (2 * n) (fun q => if q < 2 * k then psV L G q else M[q]?.getD (.int .i64 0)) ∧ Below w.heap.size w wr ∧ w.heap.size < wr.heap.size) (fun i _ => n - (intOf i).toNat)
  case atStart =>
    refine ⟨0, by omega, rfl, ?_, by go_grown, by simp⟩
    rw [← hM]
    exact (own_new w M 58 (Nat.le_refl _) (by omega)).cong (fun q _ => by rw [if_neg (by omega)])
  case round =>
    obtain ⟨k, hk, rfl, hO, hB, hS⟩ := hrel
    by_cases hlt : k < n
    · obtain ⟨b, o, rfl, hb, hc⟩ := hp (by omega)
      obtain ⟨c0, c1⟩ := hc k hlt
      replace c0 := (hB.cell (p := ⟨b, o + k * 2, none⟩) hb).trans c0
      replace c1 := (hB.cell (p := ⟨b, o + k * 2 + 1, none⟩) hb).trans c1
      have hb1 : b < wr.heap.size := Nat.lt_of_lt_of_le hb hB.size
      obtain ⟨g, eg, _, _, _, ho⟩ := hO (by omega)
      have eg2 : w.heap.size = g := by injection eg with e1; injection e1
      subst eg2
      obtain ⟨X0, x0⟩ : ∃ X, wr.cell? ⟨w.heap.size, k * 2, none⟩ = some X := ⟨_, (ho (k * 2) (by omega)).1⟩
      obtain ⟨X1, x1⟩ : ∃ X, wr.cell? ⟨w.heap.size, k * 2 + 1, none⟩ = some X := ⟨_, (ho (k * 2 + 1) (by omega)).1⟩
      have y0 := (ho (k * 2) (by omega)).2
      have y1 := (ho (k * 2 + 1) (by omega)).2

      have HO := Lib.hid ho
      clear hc ho eg hmk
      go_wp2_with (go_at_call 81; (with_reducible refine (laws_toSection_b _ _ _).mono ?_); rintro e' w1 ⟨rfl, hw1⟩; replace x0 := (hw1.cell (p := ⟨w.heap.size, k * 2, none⟩) hS).trans x0; replace y0 := (hw1.frozen (p := ⟨w.heap.size, k * 2, none⟩) hS).trans y0; replace x1 := (hw1.cell (p := ⟨w.heap.size, k * 2 + 1, none⟩) hS).trans x1; replace y1 := (hw1.frozen (p := ⟨w.heap.size, k * 2 + 1, none⟩) hS).trans y1; replace hB := hB.trans (hw1.mono hB.size); replace hO := hO.below hw1; have hz1 := hw1.size; clear hw1)
      go_roundw
      case rel => exact ⟨k + 1, by omega, by go_num, (OwnIn.set ((OwnIn.set (hO) (show k * 2 < 2 * n by omega) (.int .i64 (L k)))) (show k * 2 + 1 < 2 * n by omega) (.int .i64 (G k))).cong (fun q hq => row_next_Section L G (fun q => M[q]?.getD (.int .i64 0)) k q), by go_grown, by simp; omega⟩
      case measure => simp [intOf]; omega
    · obtain rfl : k = n := by omega
      go_wp2
      go_ret
      exact ⟨_, _, rfl, (hO.mono (Nat.le_refl _) (by omega)).cong (fun q hq => by rw [if_pos hq]), hB⟩

set_option maxHeartbeats 1000000 in
theorem laws_eqSectionS_in {lo hi lo' hi' : Nat} (a a' : Option Addr) (n c c' : Nat) (L : Nat → Int) (G : Nat → Int) (w : World) (h : CellsIn lo hi w a (2 * n) (psV L G)) (h' : CellsIn lo' hi' w a' (2 * n) (psV L G)) (hn : n ≤ 1048576) :
    Calls Try.prog 46 #[.slice a n c, .slice a' n c'] w fun e w' => e = .returned (.bool true) ∧ Below w.heap.size w w' := by
  have hp := h.pass
  have hp' := h'.pass
  go_enter Try.func46, Try.ntmps46
  go_wp2
  go_loopw [5] (fun i wr => ∃ k : Nat, k ≤ n ∧ i = .int .i64 k ∧ Below w.heap.size w wr) (fun i _ => n - (intOf i).toNat)
  case atStart => exact ⟨0, by omega, rfl, Below.refl _ _⟩
  case round =>
    obtain ⟨k, hk, rfl, hB⟩ := hrel
    by_cases hlt : k < n
    · obtain ⟨b, o, rfl, hb, hc⟩ := hp (by omega)
      obtain ⟨b', o', rfl, hb', hc'⟩ := hp' (by omega)
      obtain ⟨c0, c1⟩ := hc k hlt
      obtain ⟨d0, d1⟩ := hc' k hlt
      replace c0 := (hB.cell (p := ⟨b, o + k * 2, none⟩) hb).trans c0
      replace c1 := (hB.cell (p := ⟨b, o + k * 2 + 1, none⟩) hb).trans c1
      replace d0 := (hB.cell (p := ⟨b', o' + k * 2, none⟩) hb').trans d0
      replace d1 := (hB.cell (p := ⟨b', o' + k * 2 + 1, none⟩) hb').trans d1
      have hb1 : b < wr.heap.size := Nat.lt_of_lt_of_le hb hB.size
      have hb2 : b' < wr.heap.size := Nat.lt_of_lt_of_le hb' hB.size
      have h0 : (0 : Int) ≤ (k : Int) := by omega
      have h1 : (k : Int) < (n : Int) := by omega
      have ke := fun W => laws_eqSection_one (L k) (G k) W
      clear hc hc'
      go_wp2
      (refine wp_region_cls (by kernel_rfl) (by kernel_rfl) ?_; (repeat (go_big_quiet_step ((go_at_call 82; exact cls_B (ke _))))); refine wpQuiet_nil ?_; rintro _ ⟨u, rfl⟩; have hb := u.below; have hB := hB.trans (hb.mono hB.size); generalize u.w = w' at *; obtain ⟨hc, hf, hs⟩ := bkeep hb)
      go_wp2
      go_roundw
      case rel => exact ⟨k + 1, by omega, by go_num, hB⟩
      case measure => simp [intOf]; omega
    · obtain rfl : k = n := by omega
      go_wp2
      go_ret
      exact ⟨rfl, hB⟩

end Go.Proofs.Ytaagfkldcdebcaa
