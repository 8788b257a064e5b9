/-
  Contracts: copies, comparisons and marks of slices of structs.
-/
import Derived.Test.YtlkcnflhofophaaKS
import Derived.Test.YtlkcnflhofophaaKX
import Derived.Test.YtlkcnflhofophaaPr
import Derived.Laws.MakeOwn
namespace Go.Proofs.Ytlkcnflhofophaa
open Go.RowKit
set_option linter.unusedVariables false
set_option linter.unusedSimpArgs false

theorem row_next_Passing (S : Nat → Int) (T : Nat → Int) (M : Nat → Value) (k q : Nat) : (if q = k * 2 + 1 then .int .i64 (T k) else (if q = k * 2 then .int .i64 (S k) else if q < 2 * k then psV S T q else M q)) = if q < 2 * (k + 1) then psV S T q else M q := by
  by_cases e1 : q = k * 2 + 1
  · subst e1; rw [if_pos rfl, if_pos (by omega), psV_1]
  by_cases e0 : q = k * 2
  · subst e0; rw [if_neg (by omega), if_pos rfl, if_pos (by omega), psV_0]
  rw [if_neg e1, if_neg e0]
  by_cases h : q < 2 * k
  · rw [if_pos h, if_pos (by omega)]
  · rw [if_neg h, if_neg (by omega)]
theorem row_next_Door (P : Nat → Int) (K : Nat → Int) (R : Nat → Int) (M : Nat → Value) (k q : Nat) : (if q = k * 3 + 2 then .int .i64 (R k) else (if q = k * 3 + 1 then .int .i64 (K k) else (if q = k * 3 then .int .i64 (P k) else if q < 3 * k then drV P K R q else M q))) = if q < 3 * (k + 1) then drV P K R q else M q := by
  by_cases e2 : q = k * 3 + 2
  · subst e2; rw [if_pos rfl, if_pos (by omega), drV_2]
  by_cases e1 : q = k * 3 + 1
  · subst e1; rw [if_neg (by omega), if_pos rfl, if_pos (by omega), drV_1]
  by_cases e0 : q = k * 3
  · subst e0; rw [if_neg (by omega), if_neg (by omega), if_pos rfl, if_pos (by omega), drV_0]
  rw [if_neg e2, if_neg e1, if_neg e0]
  by_cases h : q < 3 * k
  · rw [if_pos h, if_pos (by omega)]
  · rw [if_neg h, if_neg (by omega)]

theorem laws_szPassingS_ok (a : Option Addr) (n c : Nat) (w : World) (hn : n ≤ 1048576) :
    Calls Try.prog 18 #[.slice a n c, .int .i64 1048576] w fun e w' => e = .returned (.int .i64 (1048576 - n)) ∧ w = w' := by
  have h : ¬ (1048576 - (n : Int) < 0) := by omega
  have hm : n ≤ 9223372036854775807 := by omega
  go_enter Try.func18, Try.ntmps18
  go_wp2
  go_returns
  exact ⟨rfl, rfl⟩
theorem laws_szPassingS_no (a : Option Addr) (n c : Nat) (w : World) (hn : ¬ n ≤ 1048576) (hm : n ≤ 9223372036854775807) :
    Calls Try.prog 18 #[.slice a n c, .int .i64 1048576] w fun e w' => e = .returned (.int .i64 (-1)) ∧ w = w' := by
  have h : 1048576 - (n : Int) < 0 := by omega
  go_enter Try.func18, Try.ntmps18
  go_wp2
  go_returns
  exact ⟨rfl, rfl⟩

theorem laws_eqPassing_one (s : Int) (t : Int) (w : World) : Calls Try.prog 55 #[.agg #[.int .i64 (s), .int .i64 (t)], .agg #[.int .i64 (s), .int .i64 (t)]] w fun e w' => e = .returned (.bool true) ∧ Below w.heap.size w w' := by
  go_enter Try.func55, Try.ntmps55
  go_wp2
  go_returns
  exact ⟨rfl, by go_grown⟩

theorem made_Passing (n : Nat) (hn : n ≤ 1048576) : ∃ M : Array Value, M.size = 2 * n ∧ ∀ W, (Instr.makeSlice 31 (.int .i64 n) (.int .i64 n)).run Try.prog W = .ok (.slice (some ⟨W.heap.size, 0, none⟩) n n) (W.alloc (.cells M 49)) := by
  obtain ⟨i0, hi, hz0, hz1, hz2⟩ := info_parts (show (Try.prog.info? 49).map (fun i => (i.zero, i.size, i.bytes)) = some (some (.agg #[.int .i64 0, .int .i64 0]), 2, 16) by kernel_rfl)
  refine ⟨madeCells (Value.cells (.agg #[.int .i64 0, .int .i64 0])) (n * 2), by rw [size_madeCells]; omega, fun W => ?_⟩
  have h := run_make (P := Try.prog) W 31 49 i0 (.agg #[.int .i64 0, .int .i64 0]) Try.underlying31 hi hz0 .i64 .i64 n n (by omega) (Int.le_refl _) (by rw [hz2]; omega) (by omega)
  rw [hz1] at h
  simpa using h
theorem laws_toPassing_b (s : Int) (t : Int) (w : World) : Calls Try.prog 51 #[.agg #[.int .i64 (s), .int .i64 (t)]] w fun e w' => e = .returned (.agg #[.int .i64 (s), .int .i64 (t)]) ∧ Below w.heap.size w w' :=
  (laws_toPassing_x s t w).mono fun _ _ ⟨h, hw⟩ => ⟨h, by rw [← hw]; go_grown⟩
set_option maxHeartbeats 1000000 in
theorem laws_toPassingS_in {lo hi : Nat} (a : Option Addr) (n c : Nat) (S : Nat → Int) (T : Nat → Int) (w : World) (h : CellsIn lo hi w a (2 * n) (psV S T)) (hn : n ≤ 1048576) :
    Calls Try.prog 20 #[.slice a n c] w (RetSlice (2 * n) n (psV S T) w) := by
  have hp := h.pass
  obtain ⟨M, hM, hmk⟩ := made_Passing n hn
  go_enter Try.func20, Try.ntmps20
  go_wp2
  go_loopw [4] (fun i wr => ∃ k : Nat, k ≤ n ∧ i = .int .i64 k ∧ OwnIn w.heap.size (w.heap.size + 1) wr (some ⟨w.heap.size, 0, none⟩) (2 * n) (fun q => if q < 2 * k then psV S T q else M[q]?.getD (.int .i64 0)) ∧ Below w.heap.size w wr ∧ w.heap.size < wr.heap.size) (fun i _ => n - (intOf i).toNat)
  case atStart =>
    refine ⟨0, by omega, rfl, ?_, by go_grown, by simp⟩
    rw [← hM]
    exact (own_new w M 49 (Nat.le_refl _) (by omega)).cong (fun q _ => by rw [if_neg (by omega)])
  case round =>
    obtain ⟨k, hk, rfl, hO, hB, hS⟩ := hrel
    by_cases hlt : k < n
    · obtain ⟨b, o, rfl, hb, hc⟩ := hp (by omega)
      obtain ⟨c0, c1⟩ := hc k hlt
      replace c0 := (hB.cell (p := ⟨b, o + k * 2, none⟩) hb).trans c0
      replace c1 := (hB.cell (p := ⟨b, o + k * 2 + 1, none⟩) hb).trans c1
      have hb1 : b < wr.heap.size := Nat.lt_of_lt_of_le hb hB.size
      obtain ⟨g, eg, _, _, _, ho⟩ := hO (by omega)
      have eg2 : w.heap.size = g := by injection eg with e1; injection e1
      subst eg2
      obtain ⟨X0, x0⟩ : ∃ X, wr.cell? ⟨w.heap.size, k * 2, none⟩ = some X := ⟨_, (ho (k * 2) (by omega)).1⟩
      obtain ⟨X1, x1⟩ : ∃ X, wr.cell? ⟨w.heap.size, k * 2 + 1, none⟩ = some X := ⟨_, (ho (k * 2 + 1) (by omega)).1⟩
      have y0 := (ho (k * 2) (by omega)).2
      have y1 := (ho (k * 2 + 1) (by omega)).2

      have HO := Lib.hid ho
      clear hc ho eg hmk
      go_wp2_with (go_at_call 51; (with_reducible refine (laws_toPassing_b _ _ _).mono ?_); rintro e' w1 ⟨rfl, hw1⟩; replace x0 := (hw1.cell (p := ⟨w.heap.size, k * 2, none⟩) hS).trans x0; replace y0 := (hw1.frozen (p := ⟨w.heap.size, k * 2, none⟩) hS).trans y0; replace x1 := (hw1.cell (p := ⟨w.heap.size, k * 2 + 1, none⟩) hS).trans x1; replace y1 := (hw1.frozen (p := ⟨w.heap.size, k * 2 + 1, none⟩) hS).trans y1; replace hB := hB.trans (hw1.mono hB.size); replace hO := hO.below hw1; have hz1 := hw1.size; clear hw1)
      go_roundw
      case rel => exact ⟨k + 1, by omega, by go_num, (OwnIn.set ((OwnIn.set (hO) (show k * 2 < 2 * n by omega) (.int .i64 (S k)))) (show k * 2 + 1 < 2 * n by omega) (.int .i64 (T k))).cong (fun q hq => row_next_Passing S T (fun q => M[q]?.getD (.int .i64 0)) k q), by go_grown, by simp; omega⟩
      case measure => simp [intOf]; omega
    · obtain rfl : k = n := by omega
      go_wp2
      go_ret
      exact ⟨_, _, rfl, (hO.mono (Nat.le_refl _) (by omega)).cong (fun q hq => by rw [if_pos hq]), hB⟩

set_option maxHeartbeats 1000000 in
theorem laws_eqPassingS_in {lo hi lo' hi' : Nat} (a a' : Option Addr) (n c c' : Nat) (S : Nat → Int) (T : Nat → Int) (w : World) (h : CellsIn lo hi w a (2 * n) (psV S T)) (h' : CellsIn lo' hi' w a' (2 * n) (psV S T)) (hn : n ≤ 1048576) :
    Calls Try.prog 22 #[.slice a n c, .slice a' n c'] w fun e w' => e = .returned (.bool true) ∧ Below w.heap.size w w' := by
  have hp := h.pass
  have hp' := h'.pass
  go_enter Try.func22, Try.ntmps22
  go_wp2
  go_loopw [5] (fun i wr => ∃ k : Nat, k ≤ n ∧ i = .int .i64 k ∧ Below w.heap.size w wr) (fun i _ => n - (intOf i).toNat)
  case atStart => exact ⟨0, by omega, rfl, Below.refl _ _⟩
  case round =>
    obtain ⟨k, hk, rfl, hB⟩ := hrel
    by_cases hlt : k < n
    · obtain ⟨b, o, rfl, hb, hc⟩ := hp (by omega)
      obtain ⟨b', o', rfl, hb', hc'⟩ := hp' (by omega)
      obtain ⟨c0, c1⟩ := hc k hlt
      obtain ⟨d0, d1⟩ := hc' k hlt
      replace c0 := (hB.cell (p := ⟨b, o + k * 2, none⟩) hb).trans c0
      replace c1 := (hB.cell (p := ⟨b, o + k * 2 + 1, none⟩) hb).trans c1
      replace d0 := (hB.cell (p := ⟨b', o' + k * 2, none⟩) hb').trans d0
      replace d1 := (hB.cell (p := ⟨b', o' + k * 2 + 1, none⟩) hb').trans d1
      have hb1 : b < wr.heap.size := Nat.lt_of_lt_of_le hb hB.size
      have hb2 : b' < wr.heap.size := Nat.lt_of_lt_of_le hb' hB.size
      have h0 : (0 : Int) ≤ (k : Int) := by omega
      have h1 : (k : Int) < (n : Int) := by omega
      have ke := fun W => laws_eqPassing_one (S k) (T k) W
      clear hc hc'
      go_wp2
      (refine wp_region_cls (by kernel_rfl) (by kernel_rfl) ?_; (repeat (go_big_quiet_step ((go_at_call 55; exact cls_B (ke _))))); refine wpQuiet_nil ?_; rintro _ ⟨u, rfl⟩; have hb := u.below; have hB := hB.trans (hb.mono hB.size); generalize u.w = w' at *; obtain ⟨hc, hf, hs⟩ := bkeep hb)
      go_wp2
      go_roundw
      case rel => exact ⟨k + 1, by omega, by go_num, hB⟩
      case measure => simp [intOf]; omega
    · obtain rfl : k = n := by omega
      go_wp2
      go_ret
      exact ⟨rfl, hB⟩

set_option maxHeartbeats 1000000 in
theorem laws_markPassingS {lo hi : Nat} (a : Option Addr) (n c : Nat) (V : Nat → Value) (k : Int) (w : World) (hz : OwnIn lo hi w a (2 * n) V) (hn : n ≤ 1048576) (h0 : 0 ≤ k) (h1 : k ≤ 1000000000) :
    Calls Try.prog 35 #[.slice a n c, .int .i64 k] w fun e w' => e = .returned (.int .i64 (k + 2 * n)) ∧ OwnIn lo hi w' a (2 * n) (marksFrom k) ∧ Keep lo hi w w' := by
  go_enter Try.func35, Try.ntmps35
  go_wp2
  go_loopw [1, 5] (fun x i wr => ∃ m : Nat, m ≤ n ∧ i = .int .i64 m ∧ x = .int .i64 (k + 2 * m) ∧ OwnIn lo hi wr a (2 * n) (fun j => if j < 2 * m then marksFrom k j else V j) ∧ Keep lo hi w wr) (fun _ i _ => n - (intOf i).toNat)
  case atStart => exact ⟨0, by omega, rfl, by simp, hz.cong (fun j _ => by simp), Keep.refl _ _ _⟩
  case round =>
    obtain ⟨m, hm, rfl, rfl, hO, hG⟩ := hrel
    by_cases hlt : m < n
    · have hO2 := hO
      obtain ⟨g, rfl, hB1, hB2, hl, hc⟩ := hO (by omega)
      obtain ⟨c0, f0⟩ := hc (m * 2) (by omega)
      obtain ⟨c1, f1⟩ := hc (m * 2 + 1) (by omega)
      have HC := Lib.hid hc
      clear hc
      go_wp2
      go_roundw
      case rel => exact ⟨m + 1, by omega, by go_num, by (try dsimp only); congr 1; omega, ((hO2.set (show m * 2 < 2 * n by omega) (.int .i64 (k + 2 * m))).set (show m * 2 + 1 < 2 * n by omega) (.int .i64 (k + 2 * m + 1))).cong (fun j hj => by
        by_cases e1 : j = m * 2 + 1
        · subst e1; rw [if_pos rfl, if_pos (by omega)]; unfold marksFrom; congr 1; omega
        · rw [if_neg e1]
          by_cases e0 : j = m * 2
          · subst e0; rw [if_pos rfl, if_pos (by omega)]; unfold marksFrom; congr 1; omega
          · rw [if_neg e0]
            by_cases h2 : j < 2 * m
            · rw [if_pos h2, if_pos (by omega)]
            · rw [if_neg h2, if_neg (by omega)]), (hG.set hB1 hB2).set hB1 hB2⟩
      case measure => simp [intOf]; omega
    · obtain rfl : m = n := by omega
      go_wp2
      go_ret
      exact ⟨rfl, hO.cong (fun j hj => by rw [if_pos hj]), hG⟩

end Go.Proofs.Ytlkcnflhofophaa
