/-
  Contracts: the helpers of the laws over drawn inputs (b10).
-/
import Derived.Test.YtdhjnpjemaofoaaDoorM1
import Derived.LoopTactic
import Derived.Lib.Hide
namespace Go.Proofs.YtdhjnpjemaofoaaDoor
open Go.RowKit
set_option linter.unusedVariables false
set_option linter.unusedSimpArgs false


theorem laws_b10Long (a : Option Addr) (n c : Nat) (w : World) :
    Calls Tryd.prog 5 #[.slice a n c] w fun e w' => e = .returned (.bool (decide ((1048576 : Int) < (n : Int)))) ∧ w = w' := by
  by_cases h : (1048576 : Int) < (n : Int)
  · rw [decide_eq_true h]
    go_enter Tryd.func5, Tryd.ntmps5
    go_wp2
    go_returns
    exact ⟨rfl, rfl⟩
  · rw [decide_eq_false h]
    go_enter Tryd.func5, Tryd.ntmps5
    go_wp2
    go_returns
    exact ⟨rfl, rfl⟩

theorem laws_b10Abs (x : Int) (w : World) (h1 : -9223372036854775807 ≤ x) (h2 : x ≤ 9223372036854775807) :
    Calls Tryd.prog 29 #[.int .i64 x] w fun e w' => e = .returned (.int .i64 (absV x)) ∧ w = w' := by
  by_cases h : x < 0
  · rw [show absV x = -x from if_pos h]
    go_enter Tryd.func29, Tryd.ntmps29
    go_wp2
    go_returns
    exact ⟨rfl, rfl⟩
  · rw [show absV x = x from if_neg h]
    go_enter Tryd.func29, Tryd.ntmps29
    go_wp2
    go_returns
    exact ⟨rfl, rfl⟩

set_option maxHeartbeats 1000000 in
theorem laws_b10Has (a : Option Addr) (n c : Nat) (Z : Nat → Int) (ev : Int) (w : World) (hz : IntsAt w a n Z) (hn : n ≤ 1048576) :
    Calls Tryd.prog 12 #[.slice a n c, .int .i64 ev] w fun e w' => e = .returned (.bool (any (fun j => Z j == ev) n)) ∧ w = w' := by
  rw [← idx_ge]
  have hq : ∀ j, (fun j => Z j == ev) j = (Z j == ev) := fun _ => rfl
  generalize (fun j => Z j == ev) = q at *
  go_enter Tryd.func12, Tryd.ntmps12
  go_wp2
  go_loop [5] (fun i => ∃ k : Nat, k ≤ n ∧ i = .int .i64 k ∧ fst q k = k) (fun i => n - (intOf i).toNat)
  case atStart => exact ⟨0, by omega, rfl, rfl⟩
  case round =>
    obtain ⟨k, hk, rfl, hr⟩ := hrel
    by_cases hlt : k < n
    · obtain ⟨b, o, rfl, hb, hc⟩ := hz (by omega)
      have ck := hc k hlt
      have hk1 := hq k
      clear hq hc
      cases hqk : q k
      · have H := Lib.hid (fst_miss hr hqk)
        rw [hqk] at hk1
        have hne : ¬ Z k = ev := by
          intro hh; rw [hh] at hk1; simp at hk1
        clear hr hqk hk1
        generalize Z k = z at *
        go_wp2
        go_round
        case rel => exact ⟨k + 1, by omega, by go_num, H.out⟩
        case measure => simp [intOf]; omega
      · have hfin : idx q n = k := by unfold idx; rw [fst_hit hr hqk hlt, if_pos hlt]
        have hdec : decide (0 ≤ idx q n) = true := by rw [hfin]; exact decide_eq_true (by omega)
        have H := Lib.hid hdec
        rw [hqk] at hk1
        have he : Z k = ev := by simpa using hk1.symm
        clear hr hqk hk1 hfin hdec
        go_wp2
        go_ret
        exact ⟨by rw [H.out]; rfl, rfl⟩
    · obtain rfl : k = n := by omega
      have hfin : idx q k = -1 := by unfold idx; rw [hr, if_neg (by omega)]
      have hdec : decide (0 ≤ idx q k) = false := by rw [hfin]; rfl
      have H := Lib.hid hdec
      clear hr hfin hdec
      go_wp2
      go_ret
      exact ⟨by rw [H.out]; rfl, rfl⟩

end Go.Proofs.YtdhjnpjemaofoaaDoor
