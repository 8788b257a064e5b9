/-
  Contracts: rounded quotients, forces of brakes, stopping ways.
-/
import Derived.Test.YtejhngkbkcalaaaKC
import Derived.Test.YtejhngkbkcalaaaM1
namespace Go.Proofs.Ytejhngkbkcalaaa
open Go.RowKit
set_option linter.unusedVariables false
set_option linter.unusedSimpArgs false


theorem impl_abs (a : Int) (w : World) (h : -9000000000000000000 ≤ a) (h' : a ≤ 9000000000000000000) : Calls Try.prog 54 #[.int .i64 a] w fun e w' => e = .returned (.int .i64 (if a < 0 then -a else a)) ∧ w' = w := by
  by_cases h0 : a < 0
  all_goals
    go_enter Try.func54, Try.ntmps54
    go_wp2
    go_returns
    exact ⟨by simp, rfl⟩

theorem impl_nearest (a b : Int) (w : World) (h1 : -4000000000000000000 ≤ a) (h2 : a ≤ 4000000000000000000) (h3 : 1 ≤ b) (h4 : b ≤ 2000000000000000000) :
    Calls Try.prog 28 #[.int .i64 a, .int .i64 b] w fun e w' => e = .returned (.int .i64 (nearV a b)) ∧ Below w.heap.size w w' := by
  have hb0 : (b == 0) = false := beq_eq_false_iff_ne.2 (by omega)
  by_cases ha : 0 ≤ a
  · obtain ⟨q, hq⟩ : ∃ q, q = a / b := ⟨_, rfl⟩
    obtain ⟨r, hr⟩ : ∃ r, r = a % b := ⟨_, rfl⟩
    have eq' : a.tdiv b = q := by rw [Int.tdiv_eq_ediv_of_nonneg ha]; exact hq.symm
    have er' : a.tmod b = r := by rw [Int.tmod_eq_emod_of_nonneg ha]; exact hr.symm
    have q0 : 0 ≤ q := hq ▸ Int.ediv_nonneg ha (by omega)
    have q1 : q ≤ a := hq ▸ Int.ediv_le_self b ha
    have r0 : 0 ≤ r := hr ▸ Int.emod_nonneg a (by omega)
    have r1 : r < b := hr ▸ Int.emod_lt_of_pos a (by omega)
    have hfin : (if b - r ≤ r then q + 1 else q) = nearV a b := by rw [← near_pos ha h3, hq, hr]
    rw [← hfin]
    have wq : IntKind.i64.wrap q = q := IntWalk.i64_in _ (by omega)
    clear hfin hq hr
    have ce := fun W => impl_abs r W (by omega) (by omega)
    rw [if_neg (by omega)] at ce
    have cb := fun W => impl_abs b W (by omega) (by omega)
    rw [if_neg (by omega)] at cb
    have hn : decide (a < 0) = false := by simp; omega
    have hn' : decide (b < 0) = false := by simp; omega
    by_cases hc : b - r ≤ r
    all_goals
      go_enter Try.func28, Try.ntmps28
      go_wp2
      go_quiet ((go_at_call 54; exact Calls.quiet_of_same (ce _)))
      go_wp2_with (go_at_call 54; refine (cb _).mono ?_; rintro e w' ⟨rfl, rfl⟩)
      go_returns
      exact ⟨by simp, below_drewN (Below.refl _ _) _⟩
  · obtain ⟨q, hq⟩ : ∃ q, q = a.tdiv b := ⟨_, rfl⟩
    obtain ⟨r, hr⟩ : ∃ r, r = -(a.tmod b) := ⟨_, rfl⟩
    obtain ⟨c, hc0, rfl⟩ : ∃ c, 0 < c ∧ a = -c := ⟨-a, by omega, by omega⟩
    have q2 : q = -(c / b) := by rw [hq, Int.neg_tdiv, Int.tdiv_eq_ediv_of_nonneg (by omega)]
    have r2 : r = c % b := by rw [hr, Int.neg_tmod, Int.tmod_eq_emod_of_nonneg (by omega), Int.neg_neg]
    have hfin : (if b - r ≤ r then q - 1 else q) = nearV (-c) b := by rw [← near_neg (by omega) h3, hq, hr]
    rw [← hfin]
    have eq' : (-c).tdiv b = q := hq.symm
    have er' : (-c).tmod b = -r := by rw [hr, Int.neg_neg]
    have q0 : q ≤ 0 := by have := Int.ediv_nonneg (show 0 ≤ c by omega) (show 0 ≤ b by omega); omega
    have q1 : -c ≤ q := by have := Int.ediv_le_self (a := c) b (by omega); omega
    have r0 : 0 ≤ r := by rw [r2]; exact Int.emod_nonneg c (by omega)
    have r1 : r < b := by rw [r2]; exact Int.emod_lt_of_pos c (by omega)
    clear hfin hq hr q2 r2
    have wq : IntKind.i64.wrap q = q := IntWalk.i64_in _ (by omega)
    have ce := fun W => impl_abs (-r) W (by omega) (by omega)
    rw [show (if -r < 0 then - -r else -r) = r by split <;> omega] at ce
    have cb := fun W => impl_abs b W (by omega) (by omega)
    rw [if_neg (by omega)] at cb
    have hn : decide (-c < 0) = true := by simp; omega
    have hn' : decide (b < 0) = false := by simp; omega
    by_cases hc : b - r ≤ r
    all_goals
      go_enter Try.func28, Try.ntmps28
      go_wp2
      go_quiet ((go_at_call 54; exact Calls.quiet_of_same (ce _)))
      go_wp2_with (go_at_call 54; refine (cb _).mono ?_; rintro e w' ⟨rfl, rfl⟩)
      go_returns
      exact ⟨by simp, below_drewN (Below.refl _ _) _⟩

theorem impl_ceilDiv (a b : Int) (w : World) (h1 : 0 ≤ a) (h2 : a ≤ 4000000000000000000) (h3 : 1 ≤ b) (h4 : b ≤ 1000000000000000000) :
    Calls Try.prog 60 #[.int .i64 a, .int .i64 b] w fun e w' => e = .returned (.int .i64 (upV a b)) ∧ w = w' := by
  have hb0 : (b == 0) = false := beq_eq_false_iff_ne.2 (by omega)
  go_enter Try.func60, Try.ntmps60
  go_wp2
  go_returns
  exact ⟨rfl, rfl⟩

end Go.Proofs.Ytejhngkbkcalaaa
