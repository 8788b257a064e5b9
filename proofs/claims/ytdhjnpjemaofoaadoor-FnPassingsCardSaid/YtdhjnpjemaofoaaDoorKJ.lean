/-
  Contracts: turns.
-/
import Derived.Test.YtdhjnpjemaofoaaDoorKH
import Derived.Test.YtdhjnpjemaofoaaDoorAp
import Derived.Test.YtdhjnpjemaofoaaDoorM1
namespace Go.Proofs.YtdhjnpjemaofoaaDoor
open Go.RowKit
set_option linter.unusedVariables false
set_option linter.unusedSimpArgs false


set_option maxHeartbeats 4000000 in
theorem impl_TurnsOf (a : Option Addr) (n c : Nat) (Z : Nat → Int) (a' : Option Addr) (m c' : Nat) (S T : Nat → Int) (w : World) (hz : IntsAt w a n Z) (hy : PassAt w a' m S T) (hn : n ≤ 1048576) (hm : m ≤ 1048576) :
    Calls Tryd.prog 22 #[.slice a n c, .slice a' m c'] w (RetInts (okL (passOk Z n S T m) (turnsA S (m - 2))) (okC (passOk Z n S T m) 1) w) := by
  have kv := impl_ValidPassings a n c Z a' m c' S T w hz hy hn hm
  cases h : passOk Z n S T m
  · rw [h] at kv
    rw [okL_no, okC_no]
    clear h
    go_enter Tryd.func22, Tryd.ntmps22
    go_wp2_with (go_at_call 23; (with_reducible refine (kv).mono ?_); rintro e w' ⟨rfl, hb⟩; obtain ⟨hc, hf⟩ := bcell hb; have hz : w.heap.size ≤ w'.heap.size := (by have := hb.size; (try simp at this); omega); have hB : Below w.heap.size w w' := Below.trans (by go_grown) (hb.mono (by go_size)))
    go_returns
    exact ret_none (by go_grown)
  · rw [h] at kv
    rw [okL_yes, okC_yes]
    clear h
    go_enter Tryd.func22, Tryd.ntmps22
    go_wp2_with (go_at_call 23; (with_reducible refine kv.mono ?_); rintro e w0 ⟨rfl, hB0⟩; replace hy := hy.below hB0; clear hz kv)
    have hwz := hB0.size
    go_loopw [6, 7] (fun o i wr => ∃ j : Nat, (j = 0 ∨ j + 2 ≤ m) ∧ i = .int .i64 ((j : Int) + 1) ∧ AppOf w0.heap.size wr o (turnsA S j) ∧ Below w0.heap.size w0 wr) (fun _ i _ => m - (intOf i).toNat)
    case atStart => exact ⟨0, by omega, rfl, AppOf.nil _ _, Below.refl _ _⟩
    case round =>
      obtain ⟨j, hj, rfl, hA, hB⟩ := hrel
      have hq := hB.size
      have hlen : (turnsA S j).length ≤ 16777216 := Nat.le_trans (accB_len _ _ _) (by omega)
      by_cases hlt : j + 2 < m
      · obtain ⟨b, o, rfl, hb, hc⟩ := hy (by omega)
        have c0 := (hB.cell (p := ⟨b, o + j * 2, none⟩) hb).trans (hc j (by omega)).1
        have c1 := (hB.cell (p := ⟨b, o + (j + 1) * 2, none⟩) hb).trans (hc (j + 1) (by omega)).1
        have c2 := (hB.cell (p := ⟨b, o + (j + 1 + 1) * 2, none⟩) hb).trans (hc (j + 1 + 1) (by omega)).1
        have hb1 : b < wr.heap.size := Nat.lt_of_lt_of_le hb hB.size
        have i0 : (0 : Int) ≤ (j : Int) := by omega
        have i1 : (j : Int) + 1 + 1 < (m : Int) := by omega
        clear hc hj
        unfold turnsA at *
        cases u1 : decide (S j < S (j + 1)) <;> cases u2 : decide (S (j + 1) < S (j + 1 + 1))
        · have HS := Lib.hid (accB_no (q := turnB S) (x := fun j => (j : Int) + 1) (j := j) (show _ = _ by unfold turnB; rw [u1, u2]; rfl))
          generalize accB (turnB S) (fun j => (j : Int) + 1) j = L at *
          go_wp2
          (refine wp_region_cls (by kernel_rfl) (by kernel_rfl) ?_; (repeat (go_big_quiet_step (fail))); refine wpQuiet_nil ?_; rintro _ ⟨u, rfl⟩; have hb := u.below; replace hB := hB.trans (hb.mono hB.size); replace hA := hA.below hb; generalize u.w = w' at *; obtain ⟨hc, hf, hs⟩ := bkeep hb; have hq' := hb.size; have hq := hB.size; have hb' := hb; clear hb)
          go_wp2
          (refine wp_region_cls (by kernel_rfl) (by kernel_rfl) ?_; (repeat (go_big_quiet_step (fail))); refine wpQuiet_nil ?_; rintro _ ⟨u, rfl⟩; have hb := u.below; replace hB := hB.trans (hb.mono hB.size); replace hA := hA.below hb; generalize u.w = w' at *; obtain ⟨hc, hf, hs⟩ := bkeep hb; have hq' := hb.size; have hq := hB.size; have hb' := hb; clear hb)
          go_wp2
          go_roundw
          case rel => exact ⟨j + 1, by omega, by go_num, by rw [HS.out]; exact hA, hB⟩
          case measure => simp [intOf]; omega
        · have HS := Lib.hid (accB_yes (q := turnB S) (x := fun j => (j : Int) + 1) (j := j) (show _ = _ by unfold turnB; rw [u1, u2]; rfl))
          generalize accB (turnB S) (fun j => (j : Int) + 1) j = L at *
          go_wp2
          (refine wp_region_cls (by kernel_rfl) (by kernel_rfl) ?_; (repeat (go_big_quiet_step (fail))); refine wpQuiet_nil ?_; rintro _ ⟨u, rfl⟩; have hb := u.below; replace hB := hB.trans (hb.mono hB.size); replace hA := hA.below hb; generalize u.w = w' at *; obtain ⟨hc, hf, hs⟩ := bkeep hb; have hq' := hb.size; have hq := hB.size; have hb' := hb; clear hb)
          go_wp2
          (refine wp_region_cls (by kernel_rfl) (by kernel_rfl) ?_; (repeat (go_big_quiet_step (fail))); refine wpQuiet_nil ?_; rintro _ ⟨u, rfl⟩; have hb := u.below; replace hB := hB.trans (hb.mono hB.size); replace hA := hA.below hb; generalize u.w = w' at *; obtain ⟨hc, hf, hs⟩ := bkeep hb; have hq' := hb.size; have hq := hB.size; have hb' := hb; clear hb)
          go_wp2_with (at_builtin; refine app_int _ rfl _ _ rfl w0.heap.size _ _ rfl (hA.alloc _) w'.heap.size 1 ((j : Int) + 1) rfl (by go_cell) hlen (by simp; omega) ?_; intro v' w1 hA' hw1)
          go_roundw
          case rel => exact ⟨j + 1, by omega, by go_num, by rw [HS.out]; exact hA', (Below.alloc hB hq _).trans hw1⟩
          case measure => simp [intOf]; omega
        · have HS := Lib.hid (accB_yes (q := turnB S) (x := fun j => (j : Int) + 1) (j := j) (show _ = _ by unfold turnB; rw [u1, u2]; rfl))
          generalize accB (turnB S) (fun j => (j : Int) + 1) j = L at *
          go_wp2
          (refine wp_region_cls (by kernel_rfl) (by kernel_rfl) ?_; (repeat (go_big_quiet_step (fail))); refine wpQuiet_nil ?_; rintro _ ⟨u, rfl⟩; have hb := u.below; replace hB := hB.trans (hb.mono hB.size); replace hA := hA.below hb; generalize u.w = w' at *; obtain ⟨hc, hf, hs⟩ := bkeep hb; have hq' := hb.size; have hq := hB.size; have hb' := hb; clear hb)
          go_wp2
          (refine wp_region_cls (by kernel_rfl) (by kernel_rfl) ?_; (repeat (go_big_quiet_step (fail))); refine wpQuiet_nil ?_; rintro _ ⟨u, rfl⟩; have hb := u.below; replace hB := hB.trans (hb.mono hB.size); replace hA := hA.below hb; generalize u.w = w' at *; obtain ⟨hc, hf, hs⟩ := bkeep hb; have hq' := hb.size; have hq := hB.size; have hb' := hb; clear hb)
          go_wp2_with (at_builtin; refine app_int _ rfl _ _ rfl w0.heap.size _ _ rfl (hA.alloc _) w'.heap.size 1 ((j : Int) + 1) rfl (by go_cell) hlen (by simp; omega) ?_; intro v' w1 hA' hw1)
          go_roundw
          case rel => exact ⟨j + 1, by omega, by go_num, by rw [HS.out]; exact hA', (Below.alloc hB hq _).trans hw1⟩
          case measure => simp [intOf]; omega
        · have HS := Lib.hid (accB_no (q := turnB S) (x := fun j => (j : Int) + 1) (j := j) (show _ = _ by unfold turnB; rw [u1, u2]; rfl))
          generalize accB (turnB S) (fun j => (j : Int) + 1) j = L at *
          go_wp2
          (refine wp_region_cls (by kernel_rfl) (by kernel_rfl) ?_; (repeat (go_big_quiet_step (fail))); refine wpQuiet_nil ?_; rintro _ ⟨u, rfl⟩; have hb := u.below; replace hB := hB.trans (hb.mono hB.size); replace hA := hA.below hb; generalize u.w = w' at *; obtain ⟨hc, hf, hs⟩ := bkeep hb; have hq' := hb.size; have hq := hB.size; have hb' := hb; clear hb)
          go_wp2
          (refine wp_region_cls (by kernel_rfl) (by kernel_rfl) ?_; (repeat (go_big_quiet_step (fail))); refine wpQuiet_nil ?_; rintro _ ⟨u, rfl⟩; have hb := u.below; replace hB := hB.trans (hb.mono hB.size); replace hA := hA.below hb; generalize u.w = w' at *; obtain ⟨hc, hf, hs⟩ := bkeep hb; have hq' := hb.size; have hq := hB.size; have hb' := hb; clear hb)
          go_wp2
          go_roundw
          case rel => exact ⟨j + 1, by omega, by go_num, by rw [HS.out]; exact hA, hB⟩
          case measure => simp [intOf]; omega
      · obtain rfl : j = m - 2 := by omega
        go_wp2
        go_returns
        exact hA.ret0 hB0 hB

end Go.Proofs.YtdhjnpjemaofoaaDoor
