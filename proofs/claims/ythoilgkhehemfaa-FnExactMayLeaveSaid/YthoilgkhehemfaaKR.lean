/-
  Contracts: copies, comparisons and marks of slices of structs.
-/
import Derived.Test.YthoilgkhehemfaaKS
import Derived.Test.YthoilgkhehemfaaKX
import Derived.Test.YthoilgkhehemfaaPr
import Derived.Laws.MakeOwn
namespace Go.Proofs.Ythoilgkhehemfaa
open Go.RowKit
set_option linter.unusedVariables false
set_option linter.unusedSimpArgs false

theorem row_next_Passing (S : Nat → Int) (T : Nat → Int) (M : Nat → Value) (k q : Nat) : (if q = k * 2 + 1 then .int .i64 (T k) else (if q = k * 2 then .int .i64 (S k) else if q < 2 * k then psV S T q else M q)) = if q < 2 * (k + 1) then psV S T q else M q := by
  by_cases e1 : q = k * 2 + 1
  · subst e1; rw [if_pos rfl, if_pos (by omega), psV_1]
  by_cases e0 : q = k * 2
  · subst e0; rw [if_neg (by omega), if_pos rfl, if_pos (by omega), psV_0]
  rw [if_neg e1, if_neg e0]
  by_cases h : q < 2 * k
  · rw [if_pos h, if_pos (by omega)]
  · rw [if_neg h, if_neg (by omega)]
theorem row_next_Door (P : Nat → Int) (K : Nat → Int) (R : Nat → Int) (M : Nat → Value) (k q : Nat) : (if q = k * 3 + 2 then .int .i64 (R k) else (if q = k * 3 + 1 then .int .i64 (K k) else (if q = k * 3 then .int .i64 (P k) else if q < 3 * k then drV P K R q else M q))) = if q < 3 * (k + 1) then drV P K R q else M q := by
  by_cases e2 : q = k * 3 + 2
  · subst e2; rw [if_pos rfl, if_pos (by omega), drV_2]
  by_cases e1 : q = k * 3 + 1
  · subst e1; rw [if_neg (by omega), if_pos rfl, if_pos (by omega), drV_1]
  by_cases e0 : q = k * 3
  · subst e0; rw [if_neg (by omega), if_neg (by omega), if_pos rfl, if_pos (by omega), drV_0]
  rw [if_neg e2, if_neg e1, if_neg e0]
  by_cases h : q < 3 * k
  · rw [if_pos h, if_pos (by omega)]
  · rw [if_neg h, if_neg (by omega)]

theorem laws_szDoorS_ok (a : Option Addr) (n c : Nat) (w : World) (hn : n ≤ 1048576) :
    Calls Try.prog 40 #[.slice a n c, .int .i64 1048576] w fun e w' => e = .returned (.int .i64 (1048576 - n)) ∧ w = w' := by
  have h : ¬ (1048576 - (n : Int) < 0) := by omega
  have hm : n ≤ 9223372036854775807 := by omega
  go_enter Try.func40, Try.ntmps40
  go_wp2
  go_returns
  exact ⟨rfl, rfl⟩
theorem laws_szDoorS_no (a : Option Addr) (n c : Nat) (w : World) (hn : ¬ n ≤ 1048576) (hm : n ≤ 9223372036854775807) :
    Calls Try.prog 40 #[.slice a n c, .int .i64 1048576] w fun e w' => e = .returned (.int .i64 (-1)) ∧ w = w' := by
  have h : 1048576 - (n : Int) < 0 := by omega
  go_enter Try.func40, Try.ntmps40
  go_wp2
  go_returns
  exact ⟨rfl, rfl⟩

theorem laws_eqDoor_one (p : Int) (k : Int) (r : Int) (w : World) : Calls Try.prog 73 #[.agg #[.int .i64 (p), .int .i64 (k), .int .i64 (r)], .agg #[.int .i64 (p), .int .i64 (k), .int .i64 (r)]] w fun e w' => e = .returned (.bool true) ∧ Below w.heap.size w w' := by
  go_enter Try.func73, Try.ntmps73
  go_wp2
  go_returns
  exact ⟨rfl, by go_grown⟩

theorem made_Door (n : Nat) (hn : n ≤ 1048576) : ∃ M : Array Value, M.size = 3 * n ∧ ∀ W, (Instr.makeSlice 56 (.int .i64 n) (.int .i64 n)).run Try.prog W = .ok (.slice (some ⟨W.heap.size, 0, none⟩) n n) (W.alloc (.cells M 88)) := by
  obtain ⟨i0, hi, hz0, hz1, hz2⟩ := info_parts (show (Try.prog.info? 88).map (fun i => (i.zero, i.size, i.bytes)) = some (some (.agg #[.int .i64 0, .int .i64 0, .int .i64 0]), 3, 24) by kernel_rfl)
  refine ⟨madeCells (Value.cells (.agg #[.int .i64 0, .int .i64 0, .int .i64 0])) (n * 3), by rw [size_madeCells]; omega, fun W => ?_⟩
  have h := run_make (P := Try.prog) W 56 88 i0 (.agg #[.int .i64 0, .int .i64 0, .int .i64 0]) Try.underlying56 hi hz0 .i64 .i64 n n (by omega) (Int.le_refl _) (by rw [hz2]; omega) (by omega)
  rw [hz1] at h
  simpa using h
theorem laws_toDoor_b (p : Int) (k : Int) (r : Int) (w : World) : Calls Try.prog 69 #[.agg #[.int .i64 (p), .int .i64 (k), .int .i64 (r)]] w fun e w' => e = .returned (.agg #[.int .i64 (p), .int .i64 (k), .int .i64 (r)]) ∧ Below w.heap.size w w' :=
  (laws_toDoor_x p k r w).mono fun _ _ ⟨h, hw⟩ => ⟨h, by rw [← hw]; go_grown⟩
set_option maxHeartbeats 1000000 in
theorem laws_toDoorS_in {lo hi : Nat} (a : Option Addr) (n c : Nat) (P : Nat → Int) (K : Nat → Int) (R : Nat → Int) (w : World) (h : CellsIn lo hi w a (3 * n) (drV P K R)) (hn : n ≤ 1048576) :
    Calls Try.prog 42 #[.slice a n c] w (RetSlice (3 * n) n (drV P K R) w) := by
  have hp := h.doors
  obtain ⟨M, hM, hmk⟩ := made_Door n hn
  go_enter Try.func42, Try.ntmps42
  go_wp2
  go_loopw [4] (fun i wr => ∃ k : Nat, k ≤ n ∧ i = .int .i64 k ∧ OwnIn w.heap.size (w.heap.size + 1) wr (some ⟨w.heap.size, 0, none⟩) (3 * n) (fun q => if q < 3 * k then drV P K R q else M[q]?.getD (.int .i64 0)) ∧ Below w.heap.size w wr ∧ w.heap.size < wr.heap.size) (fun i _ => n - (intOf i).toNat)
  case atStart =>
    refine ⟨0, by omega, rfl, ?_, by go_grown, by simp⟩
    rw [← hM]
    exact (own_new w M 88 (Nat.le_refl _) (by omega)).cong (fun q _ => by rw [if_neg (by omega)])
  case round =>
    obtain ⟨k, hk, rfl, hO, hB, hS⟩ := hrel
    by_cases hlt : k < n
    · obtain ⟨b, o, rfl, hb, hc⟩ := hp (by omega)
      obtain ⟨c0, c1, c2⟩ := hc k hlt
      replace c0 := (hB.cell (p := ⟨b, o + k * 3, none⟩) hb).trans c0
      replace c1 := (hB.cell (p := ⟨b, o + k * 3 + 1, none⟩) hb).trans c1
      replace c2 := (hB.cell (p := ⟨b, o + k * 3 + 2, none⟩) hb).trans c2
      have hb1 : b < wr.heap.size := Nat.lt_of_lt_of_le hb hB.size
      obtain ⟨g, eg, _, _, _, ho⟩ := hO (by omega)
      have eg2 : w.heap.size = g := by injection eg with e1; injection e1
      subst eg2
      obtain ⟨X0, x0⟩ : ∃ X, wr.cell? ⟨w.heap.size, k * 3, none⟩ = some X := ⟨_, (ho (k * 3) (by omega)).1⟩
      obtain ⟨X1, x1⟩ : ∃ X, wr.cell? ⟨w.heap.size, k * 3 + 1, none⟩ = some X := ⟨_, (ho (k * 3 + 1) (by omega)).1⟩
      obtain ⟨X2, x2⟩ : ∃ X, wr.cell? ⟨w.heap.size, k * 3 + 2, none⟩ = some X := ⟨_, (ho (k * 3 + 2) (by omega)).1⟩
      have y0 := (ho (k * 3) (by omega)).2
      have y1 := (ho (k * 3 + 1) (by omega)).2
      have y2 := (ho (k * 3 + 2) (by omega)).2

      have HO := Lib.hid ho
      clear hc ho eg hmk
      go_wp2_with (go_at_call 69; (with_reducible refine (laws_toDoor_b _ _ _ _).mono ?_); rintro e' w1 ⟨rfl, hw1⟩; replace x0 := (hw1.cell (p := ⟨w.heap.size, k * 3, none⟩) hS).trans x0; replace y0 := (hw1.frozen (p := ⟨w.heap.size, k * 3, none⟩) hS).trans y0; replace x1 := (hw1.cell (p := ⟨w.heap.size, k * 3 + 1, none⟩) hS).trans x1; replace y1 := (hw1.frozen (p := ⟨w.heap.size, k * 3 + 1, none⟩) hS).trans y1; replace x2 := (hw1.cell (p := ⟨w.heap.size, k * 3 + 2, none⟩) hS).trans x2; replace y2 := (hw1.frozen (p := ⟨w.heap.size, k * 3 + 2, none⟩) hS).trans y2; replace hB := hB.trans (hw1.mono hB.size); replace hO := hO.below hw1; have hz1 := hw1.size; clear hw1)
      go_roundw
      case rel => exact ⟨k + 1, by omega, by go_num, (OwnIn.set ((OwnIn.set ((OwnIn.set (hO) (show k * 3 < 3 * n by omega) (.int .i64 (P k)))) (show k * 3 + 1 < 3 * n by omega) (.int .i64 (K k)))) (show k * 3 + 2 < 3 * n by omega) (.int .i64 (R k))).cong (fun q hq => row_next_Door P K R (fun q => M[q]?.getD (.int .i64 0)) k q), by go_grown, by simp; omega⟩
      case measure => simp [intOf]; omega
    · obtain rfl : k = n := by omega
      go_wp2
      go_ret
      exact ⟨_, _, rfl, (hO.mono (Nat.le_refl _) (by omega)).cong (fun q hq => by rw [if_pos hq]), hB⟩

set_option maxHeartbeats 1000000 in
theorem laws_eqDoorS_in {lo hi lo' hi' : Nat} (a a' : Option Addr) (n c c' : Nat) (P : Nat → Int) (K : Nat → Int) (R : Nat → Int) (w : World) (h : CellsIn lo hi w a (3 * n) (drV P K R)) (h' : CellsIn lo' hi' w a' (3 * n) (drV P K R)) (hn : n ≤ 1048576) :
    Calls Try.prog 44 #[.slice a n c, .slice a' n c'] w fun e w' => e = .returned (.bool true) ∧ Below w.heap.size w w' := by
  have hp := h.doors
  have hp' := h'.doors
  go_enter Try.func44, Try.ntmps44
  go_wp2
  go_loopw [5] (fun i wr => ∃ k : Nat, k ≤ n ∧ i = .int .i64 k ∧ Below w.heap.size w wr) (fun i _ => n - (intOf i).toNat)
  case atStart => exact ⟨0, by omega, rfl, Below.refl _ _⟩
  case round =>
    obtain ⟨k, hk, rfl, hB⟩ := hrel
    by_cases hlt : k < n
    · obtain ⟨b, o, rfl, hb, hc⟩ := hp (by omega)
      obtain ⟨b', o', rfl, hb', hc'⟩ := hp' (by omega)
      obtain ⟨c0, c1, c2⟩ := hc k hlt
      obtain ⟨d0, d1, d2⟩ := hc' k hlt
      replace c0 := (hB.cell (p := ⟨b, o + k * 3, none⟩) hb).trans c0
      replace c1 := (hB.cell (p := ⟨b, o + k * 3 + 1, none⟩) hb).trans c1
      replace c2 := (hB.cell (p := ⟨b, o + k * 3 + 2, none⟩) hb).trans c2
      replace d0 := (hB.cell (p := ⟨b', o' + k * 3, none⟩) hb').trans d0
      replace d1 := (hB.cell (p := ⟨b', o' + k * 3 + 1, none⟩) hb').trans d1
      replace d2 := (hB.cell (p := ⟨b', o' + k * 3 + 2, none⟩) hb').trans d2
      have hb1 : b < wr.heap.size := Nat.lt_of_lt_of_le hb hB.size
      have hb2 : b' < wr.heap.size := Nat.lt_of_lt_of_le hb' hB.size
      have h0 : (0 : Int) ≤ (k : Int) := by omega
      have h1 : (k : Int) < (n : Int) := by omega
      have ke := fun W => laws_eqDoor_one (P k) (K k) (R k) W
      clear hc hc'
      go_wp2
      (refine wp_region_cls (by kernel_rfl) (by kernel_rfl) ?_; (repeat (go_big_quiet_step ((go_at_call 73; exact cls_B (ke _))))); refine wpQuiet_nil ?_; rintro _ ⟨u, rfl⟩; have hb := u.below; have hB := hB.trans (hb.mono hB.size); generalize u.w = w' at *; obtain ⟨hc, hf, hs⟩ := bkeep hb)
      go_wp2
      go_roundw
      case rel => exact ⟨k + 1, by omega, by go_num, hB⟩
      case measure => simp [intOf]; omega
    · obtain rfl : k = n := by omega
      go_wp2
      go_ret
      exact ⟨rfl, hB⟩

end Go.Proofs.Ythoilgkhehemfaa
