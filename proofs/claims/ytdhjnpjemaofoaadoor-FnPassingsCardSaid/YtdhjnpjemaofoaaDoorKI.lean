/-
  Contracts: searches in slices of numbers by a function.
-/
import Derived.Test.YtdhjnpjemaofoaaDoorKS
namespace Go.Proofs.YtdhjnpjemaofoaaDoor
open Go.RowKit
set_option linter.unusedVariables false
set_option linter.unusedSimpArgs false


theorem impl_doorRun_1 (z : Int) (w : World) : Calls Tryd.prog 65 #[.int .i64 z] w fun e w' => e = .returned (.bool (!inB z 1 4)) ∧ w = w' := by
  go_enter Tryd.func65, Tryd.ntmps65
  go_wp2_with (go_at_call 39; go_call impl_isDoorEvent as e w' ⟨rfl, rfl⟩)
  go_returns
  exact ⟨rfl, rfl⟩
theorem impl_doorRun_1_index (a : Option Addr) (n c : Nat) (Z : Nat → Int) (w : World) (hz : IntsAt w a n Z) (hn : n ≤ 1048576) :
    Calls Tryd.prog 80 #[.slice a n c, .func (.func 65) #[] #[]] w fun e w' => e = .returned (.int .i64 (idx (fun j => !inB (Z j) 1 4) n)) ∧ w = w' := by
  have hq : ∀ j, (fun j => !inB (Z j) 1 4) j = !inB (Z j) 1 4 := fun _ => rfl
  generalize (fun j => !inB (Z j) 1 4) = q at *
  have hF := fun j W => impl_doorRun_1 (Z j) W
  go_enter Tryd.func80, Tryd.ntmps80
  go_wp2
  go_loop [8] (fun i => ∃ k : Nat, k ≤ n ∧ i = .int .i64 k ∧ fst q k = k) (fun i => n - (intOf i).toNat)
  case atStart => exact ⟨0, by omega, rfl, rfl⟩
  case round =>
    obtain ⟨k, hk, rfl, hr⟩ := hrel
    by_cases hlt : k < n
    · obtain ⟨b, o, rfl, hb, hc⟩ := hz (by omega)
      have ck := hc k hlt
      have hk1 := hq k
      have cF := hF k
      rw [← hk1] at cF
      clear hk1 hq hF hc
      cases hqk : q k
      · rw [hqk] at cF
        have H := Lib.hid (fst_miss hr hqk)
        clear hr hqk
        go_wp2_with (go_at_call 65; (with_reducible refine (cF _).mono ?_); rintro e w' ⟨rfl, rfl⟩)
        go_round
        case rel => exact ⟨k + 1, by omega, by go_num, H.out⟩
        case measure => simp [intOf]; omega
      · rw [hqk] at cF
        have hfin : idx q n = k := by unfold idx; rw [fst_hit hr hqk hlt, if_pos hlt]
        have H := Lib.hid hfin
        clear hr hqk hfin
        go_wp2_with (go_at_call 65; (with_reducible refine (cF _).mono ?_); rintro e w' ⟨rfl, rfl⟩)
        go_ret
        exact ⟨by rw [H.out]; rfl, rfl⟩
    · obtain rfl : k = n := by omega
      have hfin : idx q k = -1 := by unfold idx; rw [hr, if_neg (by omega)]
      have H := Lib.hid hfin
      clear hr hfin
      go_wp2
      go_ret
      exact ⟨by rw [H.out]; rfl, rfl⟩
theorem impl_doorRun_1_contains (a : Option Addr) (n c : Nat) (Z : Nat → Int) (w : World) (hz : IntsAt w a n Z) (hn : n ≤ 1048576) :
    Calls Tryd.prog 64 #[.slice a n c, .func (.func 65) #[] #[]] w fun e w' => e = .returned (.bool (any (fun j => !inB (Z j) 1 4) n)) ∧ w = w' := by
  have hi := fun W h => impl_doorRun_1_index a n c Z W h hn
  rw [← idx_ge]
  generalize idx (fun j => !inB (Z j) 1 4) n = I at *
  go_enter Tryd.func64, Tryd.ntmps64
  go_wp2_with (go_at_call 80; (with_reducible refine (hi _ hz).mono ?_); rintro e w' ⟨rfl, rfl⟩)
  go_ret
  exact ⟨rfl, rfl⟩

end Go.Proofs.YtdhjnpjemaofoaaDoor
