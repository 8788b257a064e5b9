/-
  Contracts: copies, comparisons and marks of slices of workers.
-/
import Derived.Test.YtngeaojimehlbaaKS
import Derived.Test.YtngeaojimehlbaaWp
import Derived.Test.YtngeaojimehlbaaPr
import Derived.Laws.MakeOwn
namespace Go.Proofs.Ytngeaojimehlbaa
open Go.RowKit
set_option linter.unusedVariables false
set_option linter.unusedSimpArgs false

theorem row_next_Worker (I : Nat → ByteArray) (F : Nat → Int) (U : Nat → Int) (M : Nat → Value) (k q : Nat) : (if q = k * 3 + 2 then .int .i64 (U k) else (if q = k * 3 + 1 then .int .i64 (F k) else (if q = k * 3 then .string (I k) else if q < 3 * k then wkV I F U q else M q))) = if q < 3 * (k + 1) then wkV I F U q else M q := by
  by_cases e2 : q = k * 3 + 2
  · subst e2; rw [if_pos rfl, if_pos (by omega), wkV_2]
  by_cases e1 : q = k * 3 + 1
  · subst e1; rw [if_neg (by omega), if_pos rfl, if_pos (by omega), wkV_1]
  by_cases e0 : q = k * 3
  · subst e0; rw [if_neg (by omega), if_neg (by omega), if_pos rfl, if_pos (by omega), wkV_0]
  rw [if_neg e2, if_neg e1, if_neg e0]
  by_cases h : q < 3 * k
  · rw [if_pos h, if_pos (by omega)]
  · rw [if_neg h, if_neg (by omega)]

theorem laws_toWorker_x (i : ByteArray) (f u : Int) (w : World) : Calls Try.prog 34 #[.agg #[.string (i), .int .i64 (f), .int .i64 (u)]] w fun e' w' => e' = .returned (.agg #[.string i, .int .i64 f, .int .i64 u]) ∧ ((w.alloc (.cells #[.string i, .int .i64 f, .int .i64 u] 53)).alloc (.cells #[.string i, .int .i64 f, .int .i64 u] 57)).alloc (.cells #[.string i, .int .i64 f, .int .i64 u] 57) = w' := by
  go_enter Try.func34, Try.ntmps34
  go_wp2
  go_returns
  exact ⟨rfl, rfl⟩

theorem laws_eqWorker_one (i : ByteArray) (f u : Int) (w : World) : Calls Try.prog 40 #[.agg #[.string (i), .int .i64 (f), .int .i64 (u)], .agg #[.string (i), .int .i64 (f), .int .i64 (u)]] w fun e w' => e = .returned (.bool true) ∧ Below w.heap.size w w' := by
  go_enter Try.func40, Try.ntmps40
  go_wp2
  go_returns
  exact ⟨rfl, by go_grown⟩

theorem laws_szWorker_ok (i : ByteArray) (f u l : Int) (w : World) (hs : (i.size : Int) ≤ l) (hl : l ≤ 1048576) : Calls Try.prog 30 #[.agg #[.string i, .int .i64 f, .int .i64 u], .int .i64 l] w fun e w' => e = .returned (.int .i64 (l - i.size)) ∧ Below w.heap.size w w' := by
  have h1 : ¬ l - (i.size : Int) < 0 := by omega
  have h2 : i.size ≤ 9223372036854775807 := by omega
  go_enter Try.func30, Try.ntmps30
  go_wp2
  go_returns
  exact ⟨rfl, by go_grown⟩
theorem laws_szWorker_no (i : ByteArray) (f u l : Int) (w : World) (hs : ¬ (i.size : Int) ≤ l) (h2 : i.size ≤ 9223372036854775807) (h0 : 0 ≤ l) (hl : l ≤ 1048576) : Calls Try.prog 30 #[.agg #[.string i, .int .i64 f, .int .i64 u], .int .i64 l] w fun e w' => e = .returned (.int .i64 (-1)) ∧ Below w.heap.size w w' := by
  have h1 : l - (i.size : Int) < 0 := by omega
  go_enter Try.func30, Try.ntmps30
  go_wp2
  go_returns
  exact ⟨rfl, by go_grown⟩

set_option maxHeartbeats 1000000 in
theorem laws_szWorkerS_x {lo hi : Nat} (a : Option Addr) (n c : Nat) (I : Nat → ByteArray) (F U : Nat → Int) (w : World) (h : CellsIn lo hi w a (3 * n) (wkV I F U)) (hm : n ≤ 9223372036854775807 ∧ ∀ k, k < n → (I k).size ≤ 9223372036854775807) :
    Calls Try.prog 6 #[.slice a n c, .int .i64 1048576] w fun e w' => e = .returned (.int .i64 (if szW I n ≤ 1048576 then 1048576 - szW I n else -1)) ∧ Below w.heap.size w w' := by
  have hp := h.workers
  obtain ⟨hm1, hm2⟩ := hm
  have HM := Lib.hid hm2
  clear hm2
  by_cases hn : n ≤ 1048576
  · have h1 : ¬ 1048576 - (n : Int) < 0 := by omega
    obtain ⟨V, hV⟩ : ∃ V : Int, (if szW I n ≤ 1048576 then (1048576 - szW I n : Int) else -1) = V := ⟨_, rfl⟩
    rw [hV]
    have hne : ¬ szW I n ≤ 1048576 → V = -1 := fun h => hV.symm.trans (if_neg h)
    have hpo : szW I n ≤ 1048576 → V = 1048576 - szW I n := fun h => hV.symm.trans (if_pos h)
    have HN := Lib.hid hne
    have HP := Lib.hid hpo
    clear hne hpo hV
    go_enter Try.func6, Try.ntmps6
    go_wp2
    go_loopw [1, 5] (fun x i wr => ∃ k : Nat, k ≤ n ∧ i = .int .i64 k ∧ n + sumW I k ≤ 1048576 ∧ x = .int .i64 (1048576 - n - sumW I k) ∧ Below w.heap.size w wr) (fun _ i _ => n - (intOf i).toNat)
    case atStart => exact ⟨0, by omega, rfl, by unfold sumW; omega, by unfold sumW; simp, Below.refl _ _⟩
    case round =>
      obtain ⟨k, hk, rfl, hS, rfl, hB⟩ := hrel
      by_cases hlt : k < n
      · obtain ⟨b, o, rfl, hb, hc⟩ := hp (by omega)
        obtain ⟨c0, c1, c2⟩ := hc k hlt
        replace c0 := (hB.cell (p := ⟨b, o + k * 3, none⟩) hb).trans c0
        replace c1 := (hB.cell (p := ⟨b, o + k * 3 + 1, none⟩) hb).trans c1
        replace c2 := (hB.cell (p := ⟨b, o + k * 3 + 2, none⟩) hb).trans c2
        have hsz := HM.out k hlt
        have hS2 : sumW I (k + 1) = sumW I k + (I k).size := rfl
        have hS3 := sumW_mono (I := I) (show k + 1 ≤ n by omega)
        clear hc
        by_cases hl : ((I k).size : Int) ≤ 1048576 - n - sumW I k
        · have kz := fun W => laws_szWorker_ok (I k) (F k) (U k) (1048576 - n - sumW I k) W hl (by omega)
          have hx : ¬ 1048576 - (n : Int) - sumW I k - (I k).size < 0 := by omega
          go_wp2_with (go_at_call 30; (with_reducible refine (kz _).mono ?_); rintro e w1 ⟨rfl, hb⟩; replace hB := hB.trans (hb.mono hB.size); clear hb)
          go_roundw
          case rel => exact ⟨k + 1, by omega, by go_num, by omega, by rw [hS2]; congr 1; omega, hB⟩
          case measure => simp [intOf]; omega
        · have kz := fun W => laws_szWorker_no (I k) (F k) (U k) (1048576 - n - sumW I k) W hl hsz (by omega) (by omega)
          have hno : ¬ szW I n ≤ 1048576 := by unfold szW; omega
          go_wp2_with (go_at_call 30; (with_reducible refine (kz _).mono ?_); rintro e w1 ⟨rfl, hb⟩; replace hB := hB.trans (hb.mono hB.size); clear hb)
          go_ret
          exact ⟨by rw [HN.out hno]; rfl, hB⟩
      · obtain rfl : k = n := by omega
        have hyes : szW I k ≤ 1048576 := hS
        go_wp2
        go_ret
        exact ⟨by rw [HP.out hyes]; unfold szW; simp; omega, hB⟩
  · have h1 : 1048576 - (n : Int) < 0 := by omega
    rw [if_neg (show ¬ szW I n ≤ 1048576 by unfold szW; omega)]
    go_enter Try.func6, Try.ntmps6
    go_wp2
    go_returns
    exact ⟨rfl, Below.refl _ _⟩
theorem laws_szWorkerS_ok {lo hi : Nat} (a : Option Addr) (n c : Nat) (I : Nat → ByteArray) (F U : Nat → Int) (w : World) (h : CellsIn lo hi w a (3 * n) (wkV I F U)) (hm : n ≤ 9223372036854775807 ∧ ∀ k, k < n → (I k).size ≤ 9223372036854775807) (hn : szW I n ≤ 1048576) :
    Calls Try.prog 6 #[.slice a n c, .int .i64 1048576] w fun e w' => e = .returned (.int .i64 (1048576 - szW I n)) ∧ Below w.heap.size w w' := by
  have := laws_szWorkerS_x a n c I F U w h hm
  rwa [if_pos hn] at this
theorem laws_szWorkerS_no {lo hi : Nat} (a : Option Addr) (n c : Nat) (I : Nat → ByteArray) (F U : Nat → Int) (w : World) (h : CellsIn lo hi w a (3 * n) (wkV I F U)) (hm : n ≤ 9223372036854775807 ∧ ∀ k, k < n → (I k).size ≤ 9223372036854775807) (hn : ¬ szW I n ≤ 1048576) :
    Calls Try.prog 6 #[.slice a n c, .int .i64 1048576] w fun e w' => e = .returned (.int .i64 (-1)) ∧ Below w.heap.size w w' := by
  have := laws_szWorkerS_x a n c I F U w h hm
  rwa [if_neg hn] at this

theorem made_Worker (n : Nat) (hn : n ≤ 1048576) : ∃ M : Array Value, M.size = 3 * n ∧ ∀ W, (Instr.makeSlice 27 (.int .i64 n) (.int .i64 n)).run Try.prog W = .ok (.slice (some ⟨W.heap.size, 0, none⟩) n n) (W.alloc (.cells M 57)) := by
  obtain ⟨i0, hi, hz0, hz1, hz2⟩ := info_parts (show (Try.prog.info? 57).map (fun i => (i.zero, i.size, i.bytes)) = some (some (.agg #[.string ByteArray.empty, .int .i64 0, .int .i64 0]), 3, 32) by kernel_rfl)
  refine ⟨madeCells (Value.cells (.agg #[.string ByteArray.empty, .int .i64 0, .int .i64 0])) (n * 3), by rw [size_madeCells]; omega, fun W => ?_⟩
  have h := run_make (P := Try.prog) W 27 57 i0 (.agg #[.string ByteArray.empty, .int .i64 0, .int .i64 0]) Try.underlying27 hi hz0 .i64 .i64 n n (by omega) (Int.le_refl _) (by rw [hz2]; omega) (by omega)
  rw [hz1] at h
  simpa using h
theorem laws_toWorker_b (i : ByteArray) (f : Int) (u : Int) (w : World) : Calls Try.prog 34 #[.agg #[.string (i), .int .i64 (f), .int .i64 (u)]] w fun e w' => e = .returned (.agg #[.string (i), .int .i64 (f), .int .i64 (u)]) ∧ Below w.heap.size w w' :=
  (laws_toWorker_x i f u w).mono fun _ _ ⟨h, hw⟩ => ⟨h, by rw [← hw]; go_grown⟩
set_option maxHeartbeats 1000000 in
theorem laws_toWorkerS_in {lo hi : Nat} (a : Option Addr) (n c : Nat) (I : Nat → ByteArray) (F : Nat → Int) (U : Nat → Int) (w : World) (h : CellsIn lo hi w a (3 * n) (wkV I F U)) (hz : szW I n ≤ 1048576) :
    Calls Try.prog 8 #[.slice a n c] w (RetSlice (3 * n) n (wkV I F U) w) := by
  have hn := szW_n hz
  have hp := h.workers
  obtain ⟨M, hM, hmk⟩ := made_Worker n hn
  go_enter Try.func8, Try.ntmps8
  go_wp2
  go_loopw [4] (fun i wr => ∃ k : Nat, k ≤ n ∧ i = .int .i64 k ∧ OwnIn w.heap.size (w.heap.size + 1) wr (some ⟨w.heap.size, 0, none⟩) (3 * n) (fun q => if q < 3 * k then wkV I F U q else M[q]?.getD (.int .i64 0)) ∧ Below w.heap.size w wr ∧ w.heap.size < wr.heap.size) (fun i _ => n - (intOf i).toNat)
  case atStart =>
    refine ⟨0, by omega, rfl, ?_, by go_grown, by simp⟩
    rw [← hM]
    exact (own_new w M 57 (Nat.le_refl _) (by omega)).cong (fun q _ => by rw [if_neg (by omega)])
  case round =>
    obtain ⟨k, hk, rfl, hO, hB, hS⟩ := hrel
    by_cases hlt : k < n
    · obtain ⟨b, o, rfl, hb, hc⟩ := hp (by omega)
      obtain ⟨c0, c1, c2⟩ := hc k hlt
      replace c0 := (hB.cell (p := ⟨b, o + k * 3, none⟩) hb).trans c0
      replace c1 := (hB.cell (p := ⟨b, o + k * 3 + 1, none⟩) hb).trans c1
      replace c2 := (hB.cell (p := ⟨b, o + k * 3 + 2, none⟩) hb).trans c2
      have hb1 : b < wr.heap.size := Nat.lt_of_lt_of_le hb hB.size
      obtain ⟨g, eg, _, _, _, ho⟩ := hO (by omega)
      have eg2 : w.heap.size = g := by injection eg with e1; injection e1
      subst eg2
      obtain ⟨X0, x0⟩ : ∃ X, wr.cell? ⟨w.heap.size, k * 3, none⟩ = some X := ⟨_, (ho (k * 3) (by omega)).1⟩
      obtain ⟨X1, x1⟩ : ∃ X, wr.cell? ⟨w.heap.size, k * 3 + 1, none⟩ = some X := ⟨_, (ho (k * 3 + 1) (by omega)).1⟩
      obtain ⟨X2, x2⟩ : ∃ X, wr.cell? ⟨w.heap.size, k * 3 + 2, none⟩ = some X := ⟨_, (ho (k * 3 + 2) (by omega)).1⟩
      have y0 := (ho (k * 3) (by omega)).2
      have y1 := (ho (k * 3 + 1) (by omega)).2
      have y2 := (ho (k * 3 + 2) (by omega)).2

      have HO := Lib.hid ho
      clear hc ho eg hmk
      go_wp2_with (go_at_call 34; (with_reducible refine (laws_toWorker_b _ _ _ _).mono ?_); rintro e' w1 ⟨rfl, hw1⟩; replace x0 := (hw1.cell (p := ⟨w.heap.size, k * 3, none⟩) hS).trans x0; replace y0 := (hw1.frozen (p := ⟨w.heap.size, k * 3, none⟩) hS).trans y0; replace x1 := (hw1.cell (p := ⟨w.heap.size, k * 3 + 1, none⟩) hS).trans x1; replace y1 := (hw1.frozen (p := ⟨w.heap.size, k * 3 + 1, none⟩) hS).trans y1; replace x2 := (hw1.cell (p := ⟨w.heap.size, k * 3 + 2, none⟩) hS).trans x2; replace y2 := (hw1.frozen (p := ⟨w.heap.size, k * 3 + 2, none⟩) hS).trans y2; replace hB := hB.trans (hw1.mono hB.size); replace hO := hO.below hw1; have hz1 := hw1.size; clear hw1)
      go_roundw
      case rel => exact ⟨k + 1, by omega, by go_num, (OwnIn.set ((OwnIn.set ((OwnIn.set (hO) (show k * 3 < 3 * n by omega) (.string (I k)))) (show k * 3 + 1 < 3 * n by omega) (.int .i64 (F k)))) (show k * 3 + 2 < 3 * n by omega) (.int .i64 (U k))).cong (fun q hq => row_next_Worker I F U (fun q => M[q]?.getD (.int .i64 0)) k q), by go_grown, by simp; omega⟩
      case measure => simp [intOf]; omega
    · obtain rfl : k = n := by omega
      go_wp2
      go_ret
      exact ⟨_, _, rfl, (hO.mono (Nat.le_refl _) (by omega)).cong (fun q hq => by rw [if_pos hq]), hB⟩

set_option maxHeartbeats 1000000 in
theorem laws_eqWorkerS_in {lo hi lo' hi' : Nat} (a a' : Option Addr) (n c c' : Nat) (I : Nat → ByteArray) (F : Nat → Int) (U : Nat → Int) (w : World) (h : CellsIn lo hi w a (3 * n) (wkV I F U)) (h' : CellsIn lo' hi' w a' (3 * n) (wkV I F U)) (hz : szW I n ≤ 1048576) :
    Calls Try.prog 11 #[.slice a n c, .slice a' n c'] w fun e w' => e = .returned (.bool true) ∧ Below w.heap.size w w' := by
  have hn := szW_n hz
  have hp := h.workers
  have hp' := h'.workers
  go_enter Try.func11, Try.ntmps11
  go_wp2
  go_loopw [5] (fun i wr => ∃ k : Nat, k ≤ n ∧ i = .int .i64 k ∧ Below w.heap.size w wr) (fun i _ => n - (intOf i).toNat)
  case atStart => exact ⟨0, by omega, rfl, Below.refl _ _⟩
  case round =>
    obtain ⟨k, hk, rfl, hB⟩ := hrel
    by_cases hlt : k < n
    · obtain ⟨b, o, rfl, hb, hc⟩ := hp (by omega)
      obtain ⟨b', o', rfl, hb', hc'⟩ := hp' (by omega)
      obtain ⟨c0, c1, c2⟩ := hc k hlt
      obtain ⟨d0, d1, d2⟩ := hc' k hlt
      replace c0 := (hB.cell (p := ⟨b, o + k * 3, none⟩) hb).trans c0
      replace c1 := (hB.cell (p := ⟨b, o + k * 3 + 1, none⟩) hb).trans c1
      replace c2 := (hB.cell (p := ⟨b, o + k * 3 + 2, none⟩) hb).trans c2
      replace d0 := (hB.cell (p := ⟨b', o' + k * 3, none⟩) hb').trans d0
      replace d1 := (hB.cell (p := ⟨b', o' + k * 3 + 1, none⟩) hb').trans d1
      replace d2 := (hB.cell (p := ⟨b', o' + k * 3 + 2, none⟩) hb').trans d2
      have hb1 : b < wr.heap.size := Nat.lt_of_lt_of_le hb hB.size
      have hb2 : b' < wr.heap.size := Nat.lt_of_lt_of_le hb' hB.size
      have h0 : (0 : Int) ≤ (k : Int) := by omega
      have h1 : (k : Int) < (n : Int) := by omega
      have ke := fun W => laws_eqWorker_one (I k) (F k) (U k) W
      clear hc hc'
      go_wp2
      (refine wp_region_cls (by kernel_rfl) (by kernel_rfl) ?_; (repeat (go_big_quiet_step ((go_at_call 40; exact cls_B (ke _))))); refine wpQuiet_nil ?_; rintro _ ⟨u, rfl⟩; have hb := u.below; have hB := hB.trans (hb.mono hB.size); generalize u.w = w' at *; obtain ⟨hc, hf, hs⟩ := bkeep hb)
      go_wp2
      go_roundw
      case rel => exact ⟨k + 1, by omega, by go_num, hB⟩
      case measure => simp [intOf]; omega
    · obtain rfl : k = n := by omega
      go_wp2
      go_ret
      exact ⟨rfl, hB⟩

end Go.Proofs.Ytngeaojimehlbaa
