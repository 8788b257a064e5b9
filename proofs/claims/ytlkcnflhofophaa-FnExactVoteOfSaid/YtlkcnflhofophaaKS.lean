/-
  Contracts of functions over slices of numbers.
-/
import Derived.Test.YtlkcnflhofophaaKZ
import Derived.Test.YtlkcnflhofophaaPs
import Derived.Lib.Hide
namespace Go.Proofs.Ytlkcnflhofophaa
open Go.RowKit
set_option linter.unusedVariables false
set_option linter.unusedSimpArgs false


theorem impl_ValidPlaces (a : Option Addr) (n c : Nat) (Z : Nat → Int) (w : World) (hz : IntsAt w a n Z) (hn : n ≤ 1048576) :
    Calls Try.prog 47 #[.slice a n c] w fun e w' => e = .returned (.bool (rises Z 0 4000000 n && decide (n ≤ 16))) ∧ w = w' := by
  go_enter Try.func47, Try.ntmps47
  go_wp2
  go_loop [7] (fun i => ∃ k : Nat, k ≤ n ∧ i = .int .i64 k ∧ rises Z 0 4000000 k = true) (fun i => n - (intOf i).toNat)
  case atStart => exact ⟨0, by omega, rfl, rfl⟩
  case round =>
    obtain ⟨k, hk, rfl, hr⟩ := hrel
    by_cases hlt : k < n
    · obtain ⟨b, o, rfl, hb, hc⟩ := hz (by omega)
      have hs := rises_step hr
      have ck := hc k hlt
      cases hi : inB (Z k) 0 4000000
      · have hfin : rises Z 0 4000000 n = false := rises_no (by rw [hs, hi]; rfl) hlt
        have H := Lib.hid hfin
        clear hs hr hfin
        go_wp2_with (go_at_call 48; go_call impl_isSpot as e w' ⟨rfl, rfl⟩)
        go_ret
        exact ⟨by rw [H.out]; rfl, rfl⟩
      · rcases k with _ | m
        · rw [Nat.add_zero] at ck
          have H := Lib.hid hs
          clear hs hr
          go_wp2_with (go_at_call 48; go_call impl_isSpot as e w' ⟨rfl, rfl⟩)
          go_round
          case rel => exact ⟨1, by omega, by go_num, by rw [H.out, hi]; rfl⟩
          case measure => simp [intOf]; omega
        · have cm := hc m (by omega)
          by_cases hlt2 : Z m < Z (m + 1)
          · have H := Lib.hid hs
            clear hs hr
            go_wp2_with (go_at_call 48; go_call impl_isSpot as e w' ⟨rfl, rfl⟩)
            go_round
            case rel => exact ⟨m + 1 + 1, by omega, by go_num, by rw [H.out, hi]; simp; omega⟩
            case measure => simp [intOf]; omega
          · have hfin : rises Z 0 4000000 n = false := rises_no (by rw [hs, hi]; simp; omega) hlt
            have H := Lib.hid hfin
            clear hs hr hfin
            go_wp2_with (go_at_call 48; go_call impl_isSpot as e w' ⟨rfl, rfl⟩)
            go_ret
            exact ⟨by rw [H.out]; rfl, rfl⟩
    · obtain rfl : k = n := by omega
      have H := Lib.hid hr
      clear hr
      go_wp2
      go_ret
      exact ⟨by rw [H.out]; simp; omega, rfl⟩

theorem spec_l00Rises (a : Option Addr) (n c : Nat) (Z : Nat → Int) (lo hi : Int) (w : World) (hz : IntsAt w a n Z) (hn : n ≤ 1048576) :
    Calls Try.prog 75 #[.slice a n c, .int .i64 lo, .int .i64 hi] w fun e w' => e = .returned (.bool (rises Z lo hi n)) ∧ Below w.heap.size w w' := by
  go_enter Try.func75, Try.ntmps75
  go_wp2
  go_loopw [7] (fun i wr => ∃ k : Nat, k ≤ n ∧ i = .int .i64 k ∧ rises Z lo hi k = true ∧ Below w.heap.size w wr) (fun i _ => n - (intOf i).toNat)
  case atStart => exact ⟨0, by omega, rfl, rfl, Below.refl _ _⟩
  case round =>
    obtain ⟨k, hk, rfl, hr, hB⟩ := hrel
    by_cases hlt : k < n
    · obtain ⟨b, o, rfl, hb, hc⟩ := hz (by omega)
      have hs := rises_step hr
      have ck := (hB.cell (p := ⟨b, o + k, none⟩) hb).trans (hc k hlt)
      have hb' : b < wr.heap.size := Nat.lt_of_lt_of_le hb hB.size
      have hq := hB.size
      have ki := fun W => spec_l00In (Z k) lo hi W
      cases hi' : inB (Z k) lo hi
      · have hfin : rises Z lo hi n = false := rises_no (by rw [hs, hi']; rfl) hlt
        have H := Lib.hid hfin
        rw [hi'] at ki
        clear hs hr hfin hc
        go_wp2
        (refine wp_region_cls (by kernel_rfl) (by kernel_rfl) ?_; (repeat (go_big_quiet_step ((go_at_call 60; exact cls_S (ki _))))); refine wpQuiet_nil ?_; rintro _ ⟨u, rfl⟩; have hb := u.below; have hB := hB.trans (hb.mono hB.size); generalize u.w = w' at *; obtain ⟨hc, hf, hs⟩ := bkeep hb)
        go_wp2
        go_ret
        exact ⟨by rw [H.out]; rfl, hB⟩
      · rw [hi'] at ki
        rcases k with _ | m
        · rw [Nat.add_zero] at ck
          have H := Lib.hid hs
          clear hs hr hc
          go_wp2
          (refine wp_region_cls (by kernel_rfl) (by kernel_rfl) ?_; (repeat (go_big_quiet_step ((go_at_call 60; exact cls_S (ki _))))); refine wpQuiet_nil ?_; rintro _ ⟨u, rfl⟩; have hb := u.below; have hB := hB.trans (hb.mono hB.size); generalize u.w = w' at *; obtain ⟨hc, hf, hs⟩ := bkeep hb)
          go_wp2
          go_roundw
          case rel => exact ⟨1, by omega, by go_num, by rw [H.out, hi']; rfl, hB⟩
          case measure => simp [intOf]; omega
        · have cm := (hB.cell (p := ⟨b, o + m, none⟩) hb).trans (hc m (by omega))
          by_cases hlt2 : Z m < Z (m + 1)
          · have H := Lib.hid hs
            clear hs hr hc
            go_wp2
            (refine wp_region_cls (by kernel_rfl) (by kernel_rfl) ?_; (repeat (go_big_quiet_step ((go_at_call 60; exact cls_S (ki _))))); refine wpQuiet_nil ?_; rintro _ ⟨u, rfl⟩; have hb := u.below; have hB := hB.trans (hb.mono hB.size); generalize u.w = w' at *; obtain ⟨hc, hf, hs⟩ := bkeep hb)
            go_wp2
            go_roundw
            case rel => exact ⟨m + 1 + 1, by omega, by go_num, by rw [H.out, hi']; simp; omega, hB⟩
            case measure => simp [intOf]; omega
          · have hfin : rises Z lo hi n = false := rises_no (by rw [hs, hi']; simp; omega) hlt
            have H := Lib.hid hfin
            clear hs hr hfin hc
            go_wp2
            (refine wp_region_cls (by kernel_rfl) (by kernel_rfl) ?_; (repeat (go_big_quiet_step ((go_at_call 60; exact cls_S (ki _))))); refine wpQuiet_nil ?_; rintro _ ⟨u, rfl⟩; have hb := u.below; have hB := hB.trans (hb.mono hB.size); generalize u.w = w' at *; obtain ⟨hc, hf, hs⟩ := bkeep hb)
            go_wp2
            go_ret
            exact ⟨by rw [H.out]; rfl, hB⟩
    · obtain rfl : k = n := by omega
      have H := Lib.hid hr
      clear hr
      go_wp2
      go_ret
      exact ⟨by rw [H.out]; rfl, hB⟩

theorem int64_info : (Try.prog.info? 2).map (fun i => (i.zero, i.size, i.bytes)) = some (some (.int .i64 0), 1, 8) := by kernel_rfl
theorem laws_toInt64S (a : Option Addr) (n c : Nat) (Z : Nat → Int) (w : World) (hz : IntsAt w a n Z) (hn : n ≤ 1048576) :
    Calls Try.prog 15 #[.slice a n c] w fun e w' => e = .returned (.slice (some ⟨w.heap.size, 0, none⟩) n n) ∧ w.alloc (.cells ⟨(List.range n).map fun j => Value.int .i64 (Z j)⟩ 2) = w' := by
  have hmk := fun W => run_make_row' (P := Try.prog) 22 2 (.int .i64 0) 8 Try.underlying22 int64_info rfl .i64 .i64 n (by omega) (by omega) W
  rw [made_zero Z n] at hmk
  go_enter Try.func15, Try.ntmps15
  go_wp2
  go_loopw [4] (fun i wr => ∃ k : Nat, k ≤ n ∧ i = .int .i64 k ∧ wr = w.alloc (.cells ⟨partly Z k n⟩ 2)) (fun i _ => n - (intOf i).toNat)
  case atStart => exact ⟨0, by omega, rfl, rfl⟩
  case round =>
    obtain ⟨k, hk, rfl, rfl⟩ := hrel
    by_cases hlt : k < n
    · obtain ⟨b, o, rfl, hb, hc⟩ := hz (by omega)
      have ck := hc k hlt
      have hset := partly_set Z hlt
      have hl := partly_len Z k n
      generalize partly Z k n = L at *
      generalize hL' : partly Z (k + 1) n = L' at *
      have H := Lib.hid hset
      clear hset hc
      go_wp2
      go_roundw
      case rel => exact ⟨k + 1, by omega, by go_num, by rw [hL', ← H.out]⟩
      case measure => simp [intOf]; omega
    · obtain rfl : k = n := by omega
      rw [partly_full]
      go_wp2
      go_ret
      exact ⟨rfl, rfl⟩

theorem laws_eqInt64S_same (a a' : Option Addr) (n c c' : Nat) (Z : Nat → Int) (w : World) (hz : IntsAt w a n Z) (hz' : IntsAt w a' n Z) (hn : n ≤ 1048576) :
    Calls Try.prog 17 #[.slice a n c, .slice a' n c'] w fun e w' => e = .returned (.bool true) ∧ Below w.heap.size w w' := by
  go_enter Try.func17, Try.ntmps17
  go_wp2
  go_loopw [5] (fun i wr => ∃ k : Nat, k ≤ n ∧ i = .int .i64 k ∧ Below w.heap.size w wr) (fun i _ => n - (intOf i).toNat)
  case atStart => exact ⟨0, by omega, rfl, Below.refl _ _⟩
  case round =>
    obtain ⟨k, hk, rfl, hB⟩ := hrel
    by_cases hlt : k < n
    · obtain ⟨b, o, rfl, hb, hc⟩ := hz (by omega)
      obtain ⟨b', o', rfl, hb', hc'⟩ := hz' (by omega)
      have ck := (hB.cell (p := ⟨b, o + k, none⟩) hb).trans (hc k hlt)
      have ck' := (hB.cell (p := ⟨b', o' + k, none⟩) hb').trans (hc' k hlt)
      have h0 : (0 : Int) ≤ (k : Int) := by omega
      have h1 : (k : Int) < (n : Int) := by omega
      clear hc hc'
      go_wp2
      go_quiet (fail)
      go_wp2
      go_roundw
      case rel => exact ⟨k + 1, by omega, by go_num, below_drewN hB _⟩
      case measure => simp [intOf]; omega
    · obtain rfl : k = n := by omega
      go_wp2
      go_ret
      exact ⟨rfl, hB⟩

theorem spec_l12Places (a : Option Addr) (n c : Nat) (Z : Nat → Int) (w : World) (hz : IntsAt w a n Z) (hn : n ≤ 1048576) :
    Calls Try.prog 44 #[.slice a n c] w fun e w' => e = .returned (.bool (rises Z 0 4000000 n && decide (n ≤ 16))) ∧ Below w.heap.size w w' := by
  have ki := fun W h => spec_l00Rises a n c Z 0 4000000 W h hn
  by_cases h16 : n ≤ 16
  · have h : decide ((n : Int) ≤ 16) = true := by simp; omega
    rw [show decide (n ≤ 16) = true by simpa using h16, Bool.and_true]
    clear h16
    go_enter Try.func44, Try.ntmps44
    go_wp2_with (go_at_call 75; (with_reducible refine (ki _ hz).mono ?_); rintro e w' ⟨rfl, hb⟩; obtain ⟨hc, hf⟩ := bcell hb; have hz : w.heap.size ≤ w'.heap.size := (by have := hb.size; (try simp at this); omega); have hB : Below w.heap.size w w' := Below.trans (by go_grown) (hb.mono (by go_size)))
    go_ret
    exact ⟨rfl, by go_grown⟩
  · have h : decide ((n : Int) ≤ 16) = false := by simp; omega
    rw [show decide (n ≤ 16) = false by simpa using h16, Bool.and_false]
    clear h16
    go_enter Try.func44, Try.ntmps44
    go_wp2
    go_ret
    exact ⟨rfl, by go_grown⟩

end Go.Proofs.Ytlkcnflhofophaa
