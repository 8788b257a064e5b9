/-
  Contracts: readings.
-/
import Derived.Test.YtjckgheidmfpnaaKI
import Derived.Test.YtjckgheidmfpnaaKE
import Derived.Test.YtjckgheidmfpnaaPh
import Derived.Test.YtjckgheidmfpnaaQt
namespace Go.Proofs.Ytjckgheidmfpnaa
open Go.RowKit
set_option linter.unusedVariables false
set_option linter.unusedSimpArgs false


theorem impl_areReadings (a : Option Addr) (n c : Nat) (l : Int) (Z : Nat → Int) (w : World) (hz : IntsAt w a n Z) (hn : n ≤ 1048576) :
    Calls Try.prog 19 #[.slice a n c, .int .i64 l] w fun e w' => e = .returned (.bool (decide (l ≤ n) && readV Z n)) ∧ w = w' := by
  have kc := fun W h => impl_areReadings_1_contains a n c Z W h hn
  have e0 : readV Z n = (!any (fun j => !inB (Z j) (-1000000000) 1000000000) n && decide (n ≤ 32)) := rfl
  rw [e0]
  generalize any (fun j => !inB (Z j) (-1000000000) 1000000000) n = A at *
  by_cases h1 : l ≤ n
  · by_cases h2 : n ≤ 32
    · have h2' : (n : Int) ≤ 32 := by omega
      have h : (decide (l ≤ n) && (!A && decide (n ≤ 32))) = !A := by rw [decide_eq_true h1, decide_eq_true h2]; simp
      rw [h]
      clear h e0
      go_enter Try.func19, Try.ntmps19
      go_wp2_with (go_at_call 31; (with_reducible refine (kc _ hz).mono ?_); rintro e w' ⟨rfl, rfl⟩)
      go_returns
      exact ⟨rfl, rfl⟩
    · have h2' : ¬ (n : Int) ≤ 32 := by omega
      have h : (decide (l ≤ n) && (!A && decide (n ≤ 32))) = false := by rw [decide_eq_false h2]; simp
      rw [h]
      clear h e0
      go_enter Try.func19, Try.ntmps19
      go_wp2_with (go_at_call 31; (with_reducible refine (kc _ hz).mono ?_); rintro e w' ⟨rfl, rfl⟩)
      go_returns
      exact ⟨rfl, rfl⟩
  · have h : (decide (l ≤ n) && (!A && decide (n ≤ 32))) = false := by rw [decide_eq_false h1]; simp
    rw [h]
    clear h e0
    go_enter Try.func19, Try.ntmps19
    go_wp2_with (go_at_call 31; (with_reducible refine (kc _ hz).mono ?_); rintro e w' ⟨rfl, rfl⟩)
    go_returns
    exact ⟨rfl, rfl⟩

theorem impl_size_int64 (a : Option Addr) (n c : Nat) (w : World) (hn : n ≤ 1048576) : Calls Try.prog 30 #[.slice a n c] w fun e w' => e = .returned (.int .i64 n) ∧ w = w' := by
  go_enter Try.func30, Try.ntmps30
  go_wp2
  go_returns
  exact ⟨rfl, rfl⟩

set_option maxHeartbeats 1000000 in
theorem impl_OffsetOf (a a' : Option Addr) (n n' c c' : Nat) (Z Y : Nat → Int) (w : World) (hz : IntsAt w a n Z) (hy : IntsAt w a' n' Y) (hn : n ≤ 1048576) (hn' : n' ≤ 1048576) :
    Calls Try.prog 14 #[.slice a n c, .slice a' n' c'] w fun e w' => e = .returned (.tuple #[.int .i64 (offV Z Y n n'), .int .i64 (offCode Z Y n n')]) ∧ Below w.heap.size w w' := by
  have k1 := fun W h => impl_areReadings a n c 1 Z W h hn
  have k2 := fun W h => impl_areReadings a' n' c' 1 Y W h hn'
  have hi1 := hz
  have hi2 := hy
  have g1 : decide ((1 : Int) ≤ n) = decide (1 ≤ n) := by by_cases h : 1 ≤ n <;> simp [h] <;> omega
  have g2 : decide ((1 : Int) ≤ n') = decide (1 ≤ n') := by by_cases h : 1 ≤ n' <;> simp [h] <;> omega
  rw [g1] at k1
  rw [g2] at k2
  clear g1 g2
  cases h1 : (decide (1 ≤ n) && readV Z n && (decide (1 ≤ n') && readV Y n'))
  · obtain ⟨e1, e2⟩ := off_2 h1
    rw [e1, e2]
    clear e1 e2
    cases h2 : (decide (1 ≤ n) && readV Z n)
    · rw [h2] at k1
      clear h1 h2
      go_enter Try.func14, Try.ntmps14
      go_wp2_with (go_at_call 19; (with_reducible refine (k1 _ hz).mono ?_); rintro e w' ⟨rfl, rfl⟩)
      go_returns
      exact ⟨rfl, by go_grown⟩
    · rw [h2, Bool.true_and] at h1
      rw [h2] at k1
      rw [h1] at k2
      clear h1 h2
      go_enter Try.func14, Try.ntmps14
      go_wp2_with (first | (go_at_call 19; (with_reducible refine (k1 _ hz).mono ?_); rintro e w' ⟨rfl, rfl⟩) | (go_at_call 19; (with_reducible refine (k2 _ hy).mono ?_); rintro e w' ⟨rfl, rfl⟩))
      go_returns
      exact ⟨rfl, by go_grown⟩
  · have h0 := h1
    rw [Bool.and_eq_true] at h1
    obtain ⟨h1, h2⟩ := h1
    rw [h1] at k1
    rw [h2] at k2
    by_cases hnn : n = n'
    · obtain ⟨e1, e2⟩ := off_0 h0 hnn
      rw [e1, e2]
      clear e1 e2 h0
      subst hnn
      rw [Bool.and_eq_true, decide_eq_true_eq] at h1 h2
      have b1 := fun j h => readV_bd (j := j) h1.2 h
      have b2 := fun j h => readV_bd (j := j) h2.2 h
      have bs := sumD_bd b1 b2
      have h32 := readV_le h1.2
      have hn1 := h1.1
      have kn := fun x W h h' => impl_nearest x n W h h' (by omega) (by omega)
      have ks := fun W => impl_size_int64 a n c W hn
      have B1 := Lib.hid b1
      have B2 := Lib.hid b2
      have BS := Lib.hid bs
      clear b1 b2 bs h1 h2
      go_enter Try.func14, Try.ntmps14
      go_wp2_with (first | (go_at_call 19; (with_reducible refine (k1 _ hz).mono ?_); rintro e w' ⟨rfl, rfl⟩) | (go_at_call 19; (with_reducible refine (k2 _ hy).mono ?_); rintro e w' ⟨rfl, rfl⟩))
      go_loopw [6, 23] (fun x i wr => ∃ k : Nat, k ≤ n ∧ i = .int .i64 k ∧ x = .int .i64 (sumD Z Y k) ∧ Below w.heap.size w wr) (fun _ i _ => n - (intOf i).toNat)
      case atStart => exact ⟨0, by omega, rfl, rfl, Below.refl _ _⟩
      case round =>
        obtain ⟨k, hk, rfl, rfl, hB⟩ := hrel
        have hq := hB.size
        obtain ⟨s0, s1⟩ := BS.out k hk
        by_cases hlt : k < n
        · obtain ⟨b, o, rfl, hb, hc⟩ := hi1 (by omega)
          obtain ⟨b', o', rfl, hb', hc'⟩ := hi2 (by omega)
          have ck := (hB.cell (p := ⟨b, o + k, none⟩) hb).trans (hc k hlt)
          have hb1 : b < wr.heap.size := Nat.lt_of_lt_of_le hb hB.size
          have hb2 : b' < wr.heap.size := Nat.lt_of_lt_of_le hb' hB.size
          have ck' := (hB.cell (p := ⟨b', o' + k, none⟩) hb').trans (hc' k hlt)
          obtain ⟨z0, z1⟩ := B1.out k hlt
          obtain ⟨y0, y1⟩ := B2.out k hlt
          have hs : sumD Z Y (k + 1) = sumD Z Y k + (Y k - Z k) := rfl
          have HS := Lib.hid hs
          clear hs hc hc'
          generalize sumD Z Y k = S at *
          have j0 : (0 : Int) ≤ (k : Int) := by omega
          have j1 : (k : Int) < (n : Int) := by omega
          go_wp2
          (refine wp_region_cls (by kernel_rfl) (by kernel_rfl) ?_; (repeat (go_big_quiet_step ((go_at_call 30; exact cls_S (ks _))))); refine wpQuiet_nil ?_; rintro _ ⟨u, rfl⟩; have hb := u.below; have hB := hB.trans (hb.mono hB.size); generalize u.w = w' at *; obtain ⟨hc, hf, hs⟩ := bkeep hb)
          go_wp2
          go_roundw
          case rel => exact ⟨k + 1, by omega, by go_num, by rw [HS.out], hB⟩
          case measure => simp [intOf]; omega
        · obtain rfl : k = n := by omega
          go_wp2_with (first | (go_at_call 30; (with_reducible refine (ks _).mono ?_); rintro e w' ⟨rfl, rfl⟩) | (go_at_call 29; (with_reducible refine (kn (sumD Z Y k) _ (by omega) (by omega)).mono ?_); rintro e w' ⟨rfl, hb⟩; obtain ⟨hc, hf⟩ := bcell hb; have hz : w.heap.size ≤ w'.heap.size := (by have := hb.size; (try simp at this); omega); have hB : Below w.heap.size w w' := Below.trans (by go_grown) (hb.mono (by go_size))))
          refine bodyPost_ret (by simp [results, Try.results14, go_sem, *]; try rfl) rfl ?_
          exact ⟨rfl, hB⟩
    · obtain ⟨e1, e2⟩ := off_7 h0 hnn
      rw [e1, e2]
      clear e1 e2 h0 h1 h2
      have hne : ((n : Int) == (n' : Int)) = false := beq_eq_false_iff_ne.2 (by omega)
      go_enter Try.func14, Try.ntmps14
      go_wp2_with (first | (go_at_call 19; (with_reducible refine (k1 _ hz).mono ?_); rintro e w' ⟨rfl, rfl⟩) | (go_at_call 19; (with_reducible refine (k2 _ hy).mono ?_); rintro e w' ⟨rfl, rfl⟩))
      go_returns
      exact ⟨rfl, by go_grown⟩

end Go.Proofs.Ytjckgheidmfpnaa
