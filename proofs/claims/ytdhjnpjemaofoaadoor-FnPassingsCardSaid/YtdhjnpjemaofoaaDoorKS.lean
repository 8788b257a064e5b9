/-
  Contracts of functions over slices of numbers.
-/
import Derived.Test.YtdhjnpjemaofoaaDoorM1
import Derived.Lib.Hide
namespace Go.Proofs.YtdhjnpjemaofoaaDoor
open Go.RowKit
set_option linter.unusedVariables false
set_option linter.unusedSimpArgs false


theorem impl_ValidPlaces (a : Option Addr) (n c : Nat) (Z : Nat → Int) (w : World) (hz : IntsAt w a n Z) (hn : n ≤ 1048576) :
    Calls Tryd.prog 53 #[.slice a n c] w fun e w' => e = .returned (.bool (rises Z 0 4000000 n && decide (n ≤ 16))) ∧ w = w' := by
  go_enter Tryd.func53, Tryd.ntmps53
  go_wp2
  go_loop [7] (fun i => ∃ k : Nat, k ≤ n ∧ i = .int .i64 k ∧ rises Z 0 4000000 k = true) (fun i => n - (intOf i).toNat)
  case atStart => exact ⟨0, by omega, rfl, rfl⟩
  case round =>
    obtain ⟨k, hk, rfl, hr⟩ := hrel
    by_cases hlt : k < n
    · obtain ⟨b, o, rfl, hb, hc⟩ := hz (by omega)
      have hs := rises_step hr
      have ck := hc k hlt
      cases hi : inB (Z k) 0 4000000
      · have hfin : rises Z 0 4000000 n = false := rises_no (by rw [hs, hi]; rfl) hlt
        have H := Lib.hid hfin
        clear hs hr hfin
        go_wp2_with (go_at_call 56; go_call impl_isSpot as e w' ⟨rfl, rfl⟩)
        go_ret
        exact ⟨by rw [H.out]; rfl, rfl⟩
      · rcases k with _ | m
        · rw [Nat.add_zero] at ck
          have H := Lib.hid hs
          clear hs hr
          go_wp2_with (go_at_call 56; go_call impl_isSpot as e w' ⟨rfl, rfl⟩)
          go_round
          case rel => exact ⟨1, by omega, by go_num, by rw [H.out, hi]; rfl⟩
          case measure => simp [intOf]; omega
        · have cm := hc m (by omega)
          by_cases hlt2 : Z m < Z (m + 1)
          · have H := Lib.hid hs
            clear hs hr
            go_wp2_with (go_at_call 56; go_call impl_isSpot as e w' ⟨rfl, rfl⟩)
            go_round
            case rel => exact ⟨m + 1 + 1, by omega, by go_num, by rw [H.out, hi]; simp; omega⟩
            case measure => simp [intOf]; omega
          · have hfin : rises Z 0 4000000 n = false := rises_no (by rw [hs, hi]; simp; omega) hlt
            have H := Lib.hid hfin
            clear hs hr hfin
            go_wp2_with (go_at_call 56; go_call impl_isSpot as e w' ⟨rfl, rfl⟩)
            go_ret
            exact ⟨by rw [H.out]; rfl, rfl⟩
    · obtain rfl : k = n := by omega
      have H := Lib.hid hr
      clear hr
      go_wp2
      go_ret
      exact ⟨by rw [H.out]; simp; omega, rfl⟩

theorem spec_l00Rises (a : Option Addr) (n c : Nat) (Z : Nat → Int) (lo hi : Int) (w : World) (hz : IntsAt w a n Z) (hn : n ≤ 1048576) :
    Calls Tryd.prog 82 #[.slice a n c, .int .i64 lo, .int .i64 hi] w fun e w' => e = .returned (.bool (rises Z lo hi n)) ∧ Below w.heap.size w w' := by
  go_enter Tryd.func82, Tryd.ntmps82
  go_wp2
  go_loopw [7] (fun i wr => ∃ k : Nat, k ≤ n ∧ i = .int .i64 k ∧ rises Z lo hi k = true ∧ Below w.heap.size w wr) (fun i _ => n - (intOf i).toNat)
  case atStart => exact ⟨0, by omega, rfl, rfl, Below.refl _ _⟩
  case round =>
    obtain ⟨k, hk, rfl, hr, hB⟩ := hrel
    by_cases hlt : k < n
    · obtain ⟨b, o, rfl, hb, hc⟩ := hz (by omega)
      have hs := rises_step hr
      have ck := (hB.cell (p := ⟨b, o + k, none⟩) hb).trans (hc k hlt)
      have hb' : b < wr.heap.size := Nat.lt_of_lt_of_le hb hB.size
      have hq := hB.size
      have ki := fun W => spec_l00In (Z k) lo hi W
      cases hi' : inB (Z k) lo hi
      · have hfin : rises Z lo hi n = false := rises_no (by rw [hs, hi']; rfl) hlt
        have H := Lib.hid hfin
        rw [hi'] at ki
        clear hs hr hfin hc
        go_wp2
        (refine wp_region_cls (by kernel_rfl) (by kernel_rfl) ?_; (repeat (go_big_quiet_step ((go_at_call 66; exact cls_S (ki _))))); refine wpQuiet_nil ?_; rintro _ ⟨u, rfl⟩; have hb := u.below; have hB := hB.trans (hb.mono hB.size); generalize u.w = w' at *; obtain ⟨hc, hf, hs⟩ := bkeep hb)
        go_wp2
        go_ret
        exact ⟨by rw [H.out]; rfl, hB⟩
      · rw [hi'] at ki
        rcases k with _ | m
        · rw [Nat.add_zero] at ck
          have H := Lib.hid hs
          clear hs hr hc
          go_wp2
          (refine wp_region_cls (by kernel_rfl) (by kernel_rfl) ?_; (repeat (go_big_quiet_step ((go_at_call 66; exact cls_S (ki _))))); refine wpQuiet_nil ?_; rintro _ ⟨u, rfl⟩; have hb := u.below; have hB := hB.trans (hb.mono hB.size); generalize u.w = w' at *; obtain ⟨hc, hf, hs⟩ := bkeep hb)
          go_wp2
          go_roundw
          case rel => exact ⟨1, by omega, by go_num, by rw [H.out, hi']; rfl, hB⟩
          case measure => simp [intOf]; omega
        · have cm := (hB.cell (p := ⟨b, o + m, none⟩) hb).trans (hc m (by omega))
          by_cases hlt2 : Z m < Z (m + 1)
          · have H := Lib.hid hs
            clear hs hr hc
            go_wp2
            (refine wp_region_cls (by kernel_rfl) (by kernel_rfl) ?_; (repeat (go_big_quiet_step ((go_at_call 66; exact cls_S (ki _))))); refine wpQuiet_nil ?_; rintro _ ⟨u, rfl⟩; have hb := u.below; have hB := hB.trans (hb.mono hB.size); generalize u.w = w' at *; obtain ⟨hc, hf, hs⟩ := bkeep hb)
            go_wp2
            go_roundw
            case rel => exact ⟨m + 1 + 1, by omega, by go_num, by rw [H.out, hi']; simp; omega, hB⟩
            case measure => simp [intOf]; omega
          · have hfin : rises Z lo hi n = false := rises_no (by rw [hs, hi']; simp; omega) hlt
            have H := Lib.hid hfin
            clear hs hr hfin hc
            go_wp2
            (refine wp_region_cls (by kernel_rfl) (by kernel_rfl) ?_; (repeat (go_big_quiet_step ((go_at_call 66; exact cls_S (ki _))))); refine wpQuiet_nil ?_; rintro _ ⟨u, rfl⟩; have hb := u.below; have hB := hB.trans (hb.mono hB.size); generalize u.w = w' at *; obtain ⟨hc, hf, hs⟩ := bkeep hb)
            go_wp2
            go_ret
            exact ⟨by rw [H.out]; rfl, hB⟩
    · obtain rfl : k = n := by omega
      have H := Lib.hid hr
      clear hr
      go_wp2
      go_ret
      exact ⟨by rw [H.out]; rfl, hB⟩

theorem spec_l12Places (a : Option Addr) (n c : Nat) (Z : Nat → Int) (w : World) (hz : IntsAt w a n Z) (hn : n ≤ 1048576) :
    Calls Tryd.prog 72 #[.slice a n c] w fun e w' => e = .returned (.bool (rises Z 0 4000000 n && decide (n ≤ 16))) ∧ Below w.heap.size w w' := by
  have ki := fun W h => spec_l00Rises a n c Z 0 4000000 W h hn
  by_cases h16 : n ≤ 16
  · have h : decide ((n : Int) ≤ 16) = true := by simp; omega
    rw [show decide (n ≤ 16) = true by simpa using h16, Bool.and_true]
    clear h16
    go_enter Tryd.func72, Tryd.ntmps72
    go_wp2_with (go_at_call 82; (with_reducible refine (ki _ hz).mono ?_); rintro e w' ⟨rfl, hb⟩; obtain ⟨hc, hf⟩ := bcell hb; have hz : w.heap.size ≤ w'.heap.size := (by have := hb.size; (try simp at this); omega); have hB : Below w.heap.size w w' := Below.trans (by go_grown) (hb.mono (by go_size)))
    go_ret
    exact ⟨rfl, by go_grown⟩
  · have h : decide ((n : Int) ≤ 16) = false := by simp; omega
    rw [show decide (n ≤ 16) = false by simpa using h16, Bool.and_false]
    clear h16
    go_enter Tryd.func72, Tryd.ntmps72
    go_wp2
    go_ret
    exact ⟨rfl, by go_grown⟩

end Go.Proofs.YtdhjnpjemaofoaaDoor
