/-
  Contracts: rounded quotients, forces of brakes, stopping ways.
-/
import Derived.Test.YtcnnhklbilcbaaaKC
import Derived.Test.YtcnnhklbilcbaaaM1
namespace Go.Proofs.Ytcnnhklbilcbaaa
open Go.RowKit
set_option linter.unusedVariables false
set_option linter.unusedSimpArgs false


theorem impl_abs (a : Int) (w : World) (h : -9000000000000000000 ≤ a) (h' : a ≤ 9000000000000000000) : Calls Try.prog 67 #[.int .i64 a] w fun e w' => e = .returned (.int .i64 (if a < 0 then -a else a)) ∧ w' = w := by
  by_cases h0 : a < 0
  all_goals
    go_enter Try.func67, Try.ntmps67
    go_wp2
    go_returns
    exact ⟨by simp, rfl⟩

theorem impl_nearest (a b : Int) (w : World) (h1 : -4000000000000000000 ≤ a) (h2 : a ≤ 4000000000000000000) (h3 : 1 ≤ b) (h4 : b ≤ 2000000000000000000) :
    Calls Try.prog 60 #[.int .i64 a, .int .i64 b] w fun e w' => e = .returned (.int .i64 (nearV a b)) ∧ Below w.heap.size w w' := by
  have hb0 : (b == 0) = false := beq_eq_false_iff_ne.2 (by omega)
  by_cases ha : 0 ≤ a
  · obtain ⟨q, hq⟩ : ∃ q, q = a / b := ⟨_, rfl⟩
    obtain ⟨r, hr⟩ : ∃ r, r = a % b := ⟨_, rfl⟩
    have eq' : a.tdiv b = q := by rw [Int.tdiv_eq_ediv_of_nonneg ha]; exact hq.symm
    have er' : a.tmod b = r := by rw [Int.tmod_eq_emod_of_nonneg ha]; exact hr.symm
    have q0 : 0 ≤ q := hq ▸ Int.ediv_nonneg ha (by omega)
    have q1 : q ≤ a := hq ▸ Int.ediv_le_self b ha
    have r0 : 0 ≤ r := hr ▸ Int.emod_nonneg a (by omega)
    have r1 : r < b := hr ▸ Int.emod_lt_of_pos a (by omega)
    have hfin : (if b - r ≤ r then q + 1 else q) = nearV a b := by rw [← near_pos ha h3, hq, hr]
    rw [← hfin]
    have wq : IntKind.i64.wrap q = q := IntWalk.i64_in _ (by omega)
    clear hfin hq hr
    have ce := fun W => impl_abs r W (by omega) (by omega)
    rw [if_neg (by omega)] at ce
    have cb := fun W => impl_abs b W (by omega) (by omega)
    rw [if_neg (by omega)] at cb
    have hn : decide (a < 0) = false := by simp; omega
    have hn' : decide (b < 0) = false := by simp; omega
    by_cases hc : b - r ≤ r
    all_goals
      go_enter Try.func60, Try.ntmps60
      go_wp2
      go_quiet ((go_at_call 67; exact Calls.quiet_of_same (ce _)))
      go_wp2_with (go_at_call 67; refine (cb _).mono ?_; rintro e w' ⟨rfl, rfl⟩)
      go_returns
      exact ⟨by simp, below_drewN (Below.refl _ _) _⟩
  · obtain ⟨q, hq⟩ : ∃ q, q = a.tdiv b := ⟨_, rfl⟩
    obtain ⟨r, hr⟩ : ∃ r, r = -(a.tmod b) := ⟨_, rfl⟩
    obtain ⟨c, hc0, rfl⟩ : ∃ c, 0 < c ∧ a = -c := ⟨-a, by omega, by omega⟩
    have q2 : q = -(c / b) := by rw [hq, Int.neg_tdiv, Int.tdiv_eq_ediv_of_nonneg (by omega)]
    have r2 : r = c % b := by rw [hr, Int.neg_tmod, Int.tmod_eq_emod_of_nonneg (by omega), Int.neg_neg]
    have hfin : (if b - r ≤ r then q - 1 else q) = nearV (-c) b := by rw [← near_neg (by omega) h3, hq, hr]
    rw [← hfin]
    have eq' : (-c).tdiv b = q := hq.symm
    have er' : (-c).tmod b = -r := by rw [hr, Int.neg_neg]
    have q0 : q ≤ 0 := by have := Int.ediv_nonneg (show 0 ≤ c by omega) (show 0 ≤ b by omega); omega
    have q1 : -c ≤ q := by have := Int.ediv_le_self (a := c) b (by omega); omega
    have r0 : 0 ≤ r := by rw [r2]; exact Int.emod_nonneg c (by omega)
    have r1 : r < b := by rw [r2]; exact Int.emod_lt_of_pos c (by omega)
    clear hfin hq hr q2 r2
    have wq : IntKind.i64.wrap q = q := IntWalk.i64_in _ (by omega)
    have ce := fun W => impl_abs (-r) W (by omega) (by omega)
    rw [show (if -r < 0 then - -r else -r) = r by split <;> omega] at ce
    have cb := fun W => impl_abs b W (by omega) (by omega)
    rw [if_neg (by omega)] at cb
    have hn : decide (-c < 0) = true := by simp; omega
    have hn' : decide (b < 0) = false := by simp; omega
    by_cases hc : b - r ≤ r
    all_goals
      go_enter Try.func60, Try.ntmps60
      go_wp2
      go_quiet ((go_at_call 67; exact Calls.quiet_of_same (ce _)))
      go_wp2_with (go_at_call 67; refine (cb _).mono ?_; rintro e w' ⟨rfl, rfl⟩)
      go_returns
      exact ⟨by simp, below_drewN (Below.refl _ _) _⟩

theorem spec_l01Div (a b : Int) (w : World) (h1 : -4000000000000000000 ≤ a) (h2 : a ≤ 4000000000000000000) (h3 : 1 ≤ b) (h4 : b ≤ 1000000000000000000) :
    Calls Try.prog 59 #[.int .i64 a, .int .i64 b] w fun e w' => e = .returned (.int .i64 (nearV a b)) ∧ w = w' := by
  have hb0 : (2 * b == 0) = false := beq_eq_false_iff_ne.2 (by omega)
  have hb1 : decide (b < 0) = false := by simp; omega
  by_cases ha : 0 ≤ a
  · have hn : decide (a < 0) = false := by simp; omega
    go_enter Try.func59, Try.ntmps59
    go_wp2
    go_returns
    exact ⟨by rw [nearV, if_pos ha]; rfl, rfl⟩
  · have hn : decide (a < 0) = true := by simp; omega
    have q0 := Int.ediv_nonneg (show 0 ≤ b - 2 * a by omega) (show 0 ≤ 2 * b by omega)
    have q1 := Int.ediv_le_self (a := b - 2 * a) (2 * b) (by omega)
    go_enter Try.func59, Try.ntmps59
    go_wp2
    go_returns
    exact ⟨by rw [nearV, if_neg (by omega)]; rfl, rfl⟩

theorem impl_ceilDiv (a b : Int) (w : World) (h1 : 0 ≤ a) (h2 : a ≤ 4000000000000000000) (h3 : 1 ≤ b) (h4 : b ≤ 1000000000000000000) :
    Calls Try.prog 49 #[.int .i64 a, .int .i64 b] w fun e w' => e = .returned (.int .i64 (upV a b)) ∧ w = w' := by
  have hb0 : (b == 0) = false := beq_eq_false_iff_ne.2 (by omega)
  go_enter Try.func49, Try.ntmps49
  go_wp2
  go_returns
  exact ⟨rfl, rfl⟩

theorem spec_l11Up (a b : Int) (w : World) (h1 : 0 ≤ a) (h2 : a ≤ 4000000000000000000) (h3 : 1 ≤ b) (h4 : b ≤ 1000000000000000000) :
    Calls Try.prog 47 #[.int .i64 a, .int .i64 b] w fun e w' => e = .returned (.int .i64 (upV a b)) ∧ w = w' := by
  have hb0 : (b == 0) = false := beq_eq_false_iff_ne.2 (by omega)
  go_enter Try.func47, Try.ntmps47
  go_wp2
  go_returns
  exact ⟨rfl, rfl⟩

theorem impl_brakeForce (d f g : Int) (down : Bool) (w : World) (h1 : 1 ≤ f) (h2 : f ≤ 10000) (h3 : 0 ≤ g) (h4 : g ≤ 900) :
    Calls Try.prog 48 #[.agg #[.int .i64 d, .int .i64 f], .int .i64 g, .bool down] w fun e w' => e = .returned (.int .i64 (forceV f g down)) ∧ Below w.heap.size w w' := by
  have hn := near_bound (a := g * 981) (b := 100) (by omega) (by omega)
  have cn := fun W => impl_nearest (g * 981) 100 W (by omega) (by omega) (by omega) (by omega)
  have hfin : forceV f g down = if down = true then f - nearV (g * 981) 100 else f + nearV (g * 981) 100 := rfl
  rw [hfin]
  generalize nearV (g * 981) 100 = N at *
  clear hfin
  obtain ⟨n0, n1⟩ := hn
  cases down
  all_goals
    go_enter Try.func48, Try.ntmps48
    go_wp2_with (go_at_call 60; (with_reducible refine (cn _).mono ?_); rintro e w' ⟨rfl, hb⟩; obtain ⟨hc, hf⟩ := bcell hb; have hz : w.heap.size < w'.heap.size := (by have := hb.size; (try simp at this); omega); have hB : Below w.heap.size w w' := Below.trans (by go_grown) (hb.mono (by go_size)))
    go_returns
    exact ⟨by simp, by go_grown⟩

theorem impl_stopWay (d f s g : Int) (down : Bool) (w : World) (h1 : 1 ≤ f) (h2 : f ≤ 10000) (h3 : 0 ≤ g) (h4 : g ≤ 900) (h5 : 0 ≤ d) (h6 : d ≤ 100) (h7 : 0 ≤ s) (h8 : s ≤ 15000) :
    Calls Try.prog 31 #[.agg #[.int .i64 d, .int .i64 f], .int .i64 s, .int .i64 g, .bool down] w
      fun e w' => e = .returned (.tuple #[.int .i64 (if forceV f g down ≤ 0 then 0 else wayV d (forceV f g down) s), .bool (decide (0 < forceV f g down))]) ∧ Below w.heap.size w w' := by
  have hF := force_bd (down := down) h1 h2 h3 h4
  have cF := fun W => impl_brakeForce d f g down W h1 h2 h3 h4
  have m1 := mul_bd h7 h8 h5 h6
  have m2 := mul_bd h7 h8 h7 h8
  generalize forceV f g down = F at *
  obtain ⟨F0, F1⟩ := hF
  by_cases hp : F ≤ 0
  · go_enter Try.func31, Try.ntmps31
    go_wp2_with (go_at_call 48; (with_reducible refine (cF _).mono ?_); rintro e w' ⟨rfl, hb⟩; obtain ⟨hc, hf⟩ := bcell hb; have hz : w.heap.size < w'.heap.size := (by have := hb.size; (try simp at this); omega); have hB : Below w.heap.size w w' := Below.trans (by go_grown) (hb.mono (by go_size)))
    go_returns
    exact ⟨by simp [hp], by go_grown⟩
  · have u1 := upV_bound (b := 10) m1.1 (by omega)
    have u2 := upV_bound (b := 2 * F) m2.1 (by omega)
    have c1 := fun W => impl_ceilDiv (s * d) 10 W (by omega) (by omega) (by omega) (by omega)
    have c2 := fun W => impl_ceilDiv (s * s) (2 * F) W (by omega) (by omega) (by omega) (by omega)
    have hw : wayV d F s = upV (s * d) 10 + upV (s * s) (2 * F) := rfl
    rw [hw, if_neg hp]
    clear hw
    generalize upV (s * d) 10 = U1 at *
    generalize upV (s * s) (2 * F) = U2 at *
    obtain ⟨m10, m11⟩ := m1
    obtain ⟨m20, m21⟩ := m2
    obtain ⟨u10, u11⟩ := u1
    obtain ⟨u20, u21⟩ := u2
    have hp' : 0 < F := by omega
    go_enter Try.func31, Try.ntmps31
    go_wp2_with (first | (go_at_call 48; (with_reducible refine (cF _).mono ?_); rintro e w' ⟨rfl, hb⟩; obtain ⟨hc, hf⟩ := bcell hb; have hz : w.heap.size < w'.heap.size := (by have := hb.size; (try simp at this); omega); have hB : Below w.heap.size w w' := Below.trans (by go_grown) (hb.mono (by go_size))) | (go_at_call 49; (with_reducible refine (c1 _).mono ?_); rintro e w' ⟨rfl, rfl⟩) | (go_at_call 49; (with_reducible refine (c2 _).mono ?_); rintro e w' ⟨rfl, rfl⟩))
    go_returns
    exact ⟨by simp [hp'], by go_grown⟩

theorem spec_l11Force (b o : Nat) (f g : Int) (down : Bool) (w : World) (h1 : 1 ≤ f) (h2 : f ≤ 10000) (h3 : 0 ≤ g) (h4 : g ≤ 900) (c1 : w.cell? ⟨b, o + 1, none⟩ = some (.int .i64 f)) (hlt : b < w.heap.size) :
    Calls Try.prog 46 #[.pointer (some ⟨b, o, none⟩), .int .i64 g, .bool down] w fun e w' => e = .returned (.int .i64 (forceV f g down)) ∧ Below w.heap.size w w' := by
  have hn := near_bound (a := g * 981) (b := 100) (by omega) (by omega)
  have cn := fun W => spec_l01Div (g * 981) 100 W (by omega) (by omega) (by omega) (by omega)
  have hfin : forceV f g down = if down = true then f - nearV (g * 981) 100 else f + nearV (g * 981) 100 := rfl
  rw [hfin]
  generalize nearV (g * 981) 100 = N at *
  clear hfin
  obtain ⟨n0, n1⟩ := hn
  have e0 : IntKind.i64.wrap (g * 981) = g * 981 := IntWalk.i64_in _ (by omega)
  have e1 : IntKind.i64.wrap (f - N) = f - N := IntWalk.i64_in _ (by omega)
  have e2 : IntKind.i64.wrap (f + N) = f + N := IntWalk.i64_in _ (by omega)
  cases down
  all_goals
    go_enter Try.func46, Try.ntmps46
    go_wp2
    (refine wp_region_cls (by kernel_rfl) (by kernel_rfl) ?_; (repeat (go_big_quiet_step ((go_at_call 59; exact cls_S (cn _))))); refine wpQuiet_nil ?_; rintro _ ⟨u, rfl⟩; have hb := u.below; generalize u.w = w' at *; obtain ⟨hc, hf⟩ := bcell hb; have hz : w.heap.size ≤ w'.heap.size := (by have := hb.size; (try simp at this); omega); have hB : Below w.heap.size w w' := Below.trans (by go_grown) (hb.mono (by go_size)))
    go_wp2
    go_returns
    exact ⟨by simp, by go_grown⟩

theorem spec_l11Way (b o : Nat) (d f s g : Int) (down : Bool) (w : World) (h1 : 1 ≤ f) (h2 : f ≤ 10000) (h3 : 0 ≤ g) (h4 : g ≤ 900) (h5 : 0 ≤ d) (h6 : d ≤ 100) (h7 : 0 ≤ s) (h8 : s ≤ 15000)
    (c0 : w.cell? ⟨b, o, none⟩ = some (.int .i64 d)) (c1 : w.cell? ⟨b, o + 1, none⟩ = some (.int .i64 f)) (hlt : b < w.heap.size) :
    Calls Try.prog 25 #[.pointer (some ⟨b, o, none⟩), .int .i64 s, .int .i64 g, .bool down] w
      fun e w' => e = .returned (.int .i64 (if forceV f g down ≤ 0 then -1 else wayV d (forceV f g down) s)) ∧ Below w.heap.size w w' := by
  have hF := force_bd (down := down) h1 h2 h3 h4
  have cF := fun W => spec_l11Force b o f g down W h1 h2 h3 h4
  have m1 := mul_bd h7 h8 h5 h6
  have m2 := mul_bd h7 h8 h7 h8
  generalize forceV f g down = F at *
  obtain ⟨F0, F1⟩ := hF
  by_cases hp : F ≤ 0
  · go_enter Try.func25, Try.ntmps25
    go_wp2_with (go_at_call 46; (with_reducible refine (cF _ c1 hlt).mono ?_); rintro e w' ⟨rfl, hb⟩; obtain ⟨hc, hf⟩ := bcell hb; have hz : w.heap.size ≤ w'.heap.size := (by have := hb.size; (try simp at this); omega); have hB : Below w.heap.size w w' := Below.trans (by go_grown) (hb.mono (by go_size)))
    go_returns
    exact ⟨by simp, by go_grown⟩
  · have u1 := upV_bound (b := 10) m1.1 (by omega)
    have u2 := upV_bound (b := 2 * F) m2.1 (by omega)
    have k1 := fun W => spec_l11Up (s * d) 10 W (by omega) (by omega) (by omega) (by omega)
    have k2 := fun W => spec_l11Up (s * s) (2 * F) W (by omega) (by omega) (by omega) (by omega)
    have hw : wayV d F s = upV (s * d) 10 + upV (s * s) (2 * F) := rfl
    rw [hw, if_neg hp]
    clear hw
    generalize upV (s * d) 10 = U1 at *
    generalize upV (s * s) (2 * F) = U2 at *
    obtain ⟨m10, m11⟩ := m1
    obtain ⟨m20, m21⟩ := m2
    obtain ⟨u10, u11⟩ := u1
    obtain ⟨u20, u21⟩ := u2
    have hp' : 0 < F := by omega
    go_enter Try.func25, Try.ntmps25
    go_wp2_with (first | (go_at_call 46; (with_reducible refine (cF _ c1 hlt).mono ?_); rintro e w' ⟨rfl, hb⟩; obtain ⟨hc, hf⟩ := bcell hb; have hz : w.heap.size ≤ w'.heap.size := (by have := hb.size; (try simp at this); omega); have hB : Below w.heap.size w w' := Below.trans (by go_grown) (hb.mono (by go_size))) | (go_at_call 47; (with_reducible refine (k1 _).mono ?_); rintro e w' ⟨rfl, rfl⟩) | (go_at_call 47; (with_reducible refine (k2 _).mono ?_); rintro e w' ⟨rfl, rfl⟩))
    go_returns
    exact ⟨by simp, by go_grown⟩

theorem spec_l11Ask (b o : Nat) (d f s g : Int) (w : World) (c0 : w.cell? ⟨b, o, none⟩ = some (.int .i64 d)) (c1 : w.cell? ⟨b, o + 1, none⟩ = some (.int .i64 f)) :
    Calls Try.prog 24 #[.pointer (some ⟨b, o, none⟩), .int .i64 s, .int .i64 g] w fun e w' => e = .returned (.int .i64 (askV d f s g)) ∧ w = w' := by
  have ca := fun W h => spec_l11Ok b o d f W h
  unfold askV
  cases hv : validBrake d f
  · go_enter Try.func24, Try.ntmps24
    go_wp2_with (go_at_call 44; (with_reducible refine (spec_l11Ok b o d f _ c0 c1).mono ?_); rintro e w' ⟨rfl, rfl⟩)
    go_returns
    exact ⟨by simp, rfl⟩
  · cases hs : inB s 0 15000 <;> cases hg : inB g 0 900
    all_goals
      go_enter Try.func24, Try.ntmps24
      go_wp2_with (first | (go_at_call 44; (with_reducible refine (spec_l11Ok b o d f _ c0 c1).mono ?_); rintro e w' ⟨rfl, rfl⟩) | (go_at_call 45; go_call spec_l11Speed as e w' ⟨rfl, rfl⟩) | (go_at_call 39; go_call spec_l00In as e w' ⟨rfl, rfl⟩))
      go_returns
      exact ⟨by simp, rfl⟩

theorem askV_1 {d f s g : Int} (h : validBrake d f = false) : askV d f s g = 1 := by simp [askV, h]
theorem askV_2 {d f s g : Int} (h : validBrake d f = true) (h' : (inB s 0 15000 && inB g 0 900) = false) : askV d f s g = 2 := by simp [askV, h]; simp at h'; exact h'
theorem askV_0 {d f s g : Int} (h : validBrake d f = true) (h1 : inB s 0 15000 = true) (h2 : inB g 0 900 = true) : askV d f s g = 0 := by simp [askV, h, h1, h2]
set_option maxHeartbeats 1000000 in
theorem spec_StopWay (d f s g : Int) (down : Bool) (w : World) :
    Calls Try.prog 11 #[.agg #[.int .i64 d, .int .i64 f], .int .i64 s, .int .i64 g, .bool down] w
      fun e w' => e = .returned (.tuple #[.int .i64 (stopWayV d f s g down), .int .i64 (stopCode d f s g down)]) ∧ Below w.heap.size w w' := by
  have ka := fun W => spec_l11Ask w.heap.size 0 d f s g W
  cases hv : validBrake d f
  · obtain ⟨e1, e2, e3⟩ := stop_1 (s := s) (g := g) (down := down) hv
    rw [e1, e2]
    rw [askV_1 hv] at ka
    clear e1 e2 e3
    go_enter Try.func11, Try.ntmps11
    go_wp2_with (go_at_call 24; refine (ka _ (by go_cell) (by go_cell)).mono ?_; rintro e w' ⟨rfl, rfl⟩)
    go_returns
    exact ⟨rfl, by go_grown⟩
  · cases hsg : (inB s 0 15000 && inB g 0 900)
    · obtain ⟨e1, e2, e3⟩ := stop_2 (down := down) hv hsg
      rw [e1, e2]
      rw [askV_2 hv hsg] at ka
      clear e1 e2 e3
      go_enter Try.func11, Try.ntmps11
      go_wp2_with (go_at_call 24; refine (ka _ (by go_cell) (by go_cell)).mono ?_; rintro e w' ⟨rfl, rfl⟩)
      go_returns
      exact ⟨rfl, by go_grown⟩
    · rw [Bool.and_eq_true] at hsg
      obtain ⟨hs, hg⟩ := hsg
      rw [askV_0 hv hs hg] at ka
      obtain ⟨h7, h8⟩ := inB_true.1 hs
      obtain ⟨h3, h4⟩ := inB_true.1 hg
      obtain ⟨h5, h6, h1, h2⟩ := validBrake_bd hv
      have cw := fun W => spec_l11Way w.heap.size 0 d f s g down W h1 h2 h3 h4 h5 h6 h7 h8
      by_cases hp : forceV f g down ≤ 0
      · obtain ⟨e1, e2, e3⟩ := stop_3 hv hs hg hp
        rw [e1, e2]
        rw [if_pos hp] at cw
        clear e1 e2 e3 hp h1 h2 h3 h4 h5 h6 h7 h8
        go_enter Try.func11, Try.ntmps11
        go_wp2_with (first | (go_at_call 24; refine (ka _ (by go_cell) (by go_cell)).mono ?_; rintro e w' ⟨rfl, rfl⟩) | (go_at_call 25; (with_reducible refine (cw _ (by go_cell) (by go_cell) (by simp)).mono ?_); rintro e w' ⟨rfl, hb⟩; obtain ⟨hc, hf⟩ := bcell hb; have hz : w.heap.size < w'.heap.size := (by have := hb.size; (try simp at this); omega); have hB : Below w.heap.size w w' := Below.trans (by go_grown) (hb.mono (by go_size))))
        go_returns
        exact ⟨rfl, by go_grown⟩
      · obtain ⟨e1, e2, e3⟩ := stop_0 hv hs hg hp
        rw [e1, e2]
        rw [if_neg hp] at cw
        obtain ⟨w0, w1⟩ := way_bd (F := forceV f g down) h7 h8 h5 h6 (by omega)
        clear e1 e2 e3 hp h1 h2 h3 h4 h5 h6 h7 h8
        generalize wayV d (forceV f g down) s = V at *
        go_enter Try.func11, Try.ntmps11
        go_wp2_with (first | (go_at_call 24; refine (ka _ (by go_cell) (by go_cell)).mono ?_; rintro e w' ⟨rfl, rfl⟩) | (go_at_call 25; (with_reducible refine (cw _ (by go_cell) (by go_cell) (by simp)).mono ?_); rintro e w' ⟨rfl, hb⟩; obtain ⟨hc, hf⟩ := bcell hb; have hz : w.heap.size < w'.heap.size := (by have := hb.size; (try simp at this); omega); have hB : Below w.heap.size w w' := Below.trans (by go_grown) (hb.mono (by go_size))))
        go_returns
        exact ⟨rfl, by go_grown⟩

end Go.Proofs.Ytcnnhklbilcbaaa
