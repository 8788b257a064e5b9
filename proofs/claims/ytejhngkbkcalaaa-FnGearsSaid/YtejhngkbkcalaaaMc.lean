/-
  Contracts: what motors need (both sides), lists of forces.
-/
import Derived.Test.YtejhngkbkcalaaaPmo
import Derived.Test.YtejhngkbkcalaaaPge
import Derived.Test.YtejhngkbkcalaaaPmk
import Derived.Test.YtejhngkbkcalaaaKE
import Derived.Test.YtejhngkbkcalaaaM1
import Derived.LoopTactic
import Derived.Lib.Hide
namespace Go.Proofs.Ytejhngkbkcalaaa
open Go.RowKit
set_option linter.unusedVariables false
set_option linter.unusedSimpArgs false


theorem impl_motored (p m l : Int) (fine : Bool) (w : World) : Calls Try.prog 26 #[.agg #[.int .i64 p, .int .i64 m, .int .i64 l], .bool fine] w fun e w' => e = .returned (.int .i64 (if motorOk p m l = true then (if fine = true then 0 else 2) else 1)) ∧ Below w.heap.size w w' := by
  have kb := fun W => impl_ValidMotor p m l W
  cases h : motorOk p m l <;> rw [h] at kb <;> cases fine
  all_goals
    go_enter Try.func26, Try.ntmps26
    go_wp2_with (go_at_call 51; (with_reducible refine (kb _).mono ?_); rintro e w' ⟨rfl, hb⟩; obtain ⟨hc, hf⟩ := bcell hb; have hz : w.heap.size < w'.heap.size := (by have := hb.size; (try simp at this); omega); have hB : Below w.heap.size w w' := Below.trans (by go_grown) (hb.mono (by go_size)))
    go_returns
    exact ⟨rfl, by go_grown⟩

theorem impl_power (p m l f s : Int) (w : World) (h1 : -1000000 ≤ f) (h2 : f ≤ 1000000) (h3 : 0 ≤ s) (h4 : s ≤ 20000) (l0 : 0 ≤ l) (l1 : l ≤ 500) :
    Calls Try.prog 53 #[.agg #[.int .i64 p, .int .i64 m, .int .i64 l], .int .i64 f, .int .i64 s] w fun e w' => e = .returned (.int .i64 (powV l f s)) ∧ Below w.heap.size w w' := by
  have hb := fs_bd h1 h2 h3 h4
  have hw := work_bd h1 h2 h3 h4
  have hx : (f * s).tdiv 1000 = workV f s := rfl
  have hp : powV l f s = if 0 < workV f s then upV (1000 * workV f s) (1000 - l) else -((-workV f s * (1000 - l)).tdiv 1000) := rfl
  rw [hp]
  clear hp
  generalize workV f s = x at *
  by_cases h0 : 0 < x
  · have kc := fun W => impl_ceilDiv (1000 * x) (1000 - l) W (by omega) (by omega) (by omega) (by omega)
    rw [if_pos h0]
    generalize upV (1000 * x) (1000 - l) = U at *
    go_enter Try.func53, Try.ntmps53
    go_wp2_with (go_at_call 60; (with_reducible refine (kc _).mono ?_); rintro e w' ⟨rfl, rfl⟩)
    go_returns
    exact ⟨rfl, by go_grown⟩
  · rw [if_neg h0]
    have hm := mul_bd (x := -x) (a := 20000000) (y := 1000 - l) (b := 1000) (by omega) (by omega) (by omega) (by omega)
    have hd : 0 ≤ -x * (1000 - l) / 1000 ∧ -x * (1000 - l) / 1000 ≤ 20000000 := by omega
    have ht : (-x * (1000 - l)).tdiv 1000 = -x * (1000 - l) / 1000 := Int.tdiv_eq_ediv_of_nonneg hm.1
    rw [ht]
    go_enter Try.func53, Try.ntmps53
    go_wp2
    go_returns
    exact ⟨rfl, by go_grown⟩

theorem impl_canDo (p m l f s : Int) (w : World) (h1 : -1000000 ≤ f) (h2 : f ≤ 1000000) (h3 : 0 ≤ s) (h4 : s ≤ 20000) (l0 : 0 ≤ l) (l1 : l ≤ 500) :
    Calls Try.prog 52 #[.agg #[.int .i64 p, .int .i64 m, .int .i64 l], .int .i64 f, .int .i64 s] w fun e w' => e = .returned (.bool (canV p m l f s)) ∧ Below w.heap.size w w' := by
  have kp := fun W => impl_power p m l f s W h1 h2 h3 h4 l0 l1
  unfold canV
  generalize powV l f s = V at *
  by_cases hf : f ≤ m
  · rw [decide_eq_true hf, Bool.true_and]
    go_enter Try.func52, Try.ntmps52
    go_wp2
    (refine wp_region_cls (by kernel_rfl) (by kernel_rfl) ?_; (repeat (go_big_quiet_step ((go_at_call 53; exact cls_B (kp _))))); refine wpQuiet_nil ?_; rintro _ ⟨u, rfl⟩; have hb := u.below; generalize u.w = w' at *; obtain ⟨hc, hf⟩ := bcell hb; have hz : w.heap.size < w'.heap.size := (by have := hb.size; (try simp at this); omega); have hB : Below w.heap.size w w' := Below.trans (by go_grown) (hb.mono (by go_size)))
    go_wp2
    go_returns
    exact ⟨rfl, by go_grown⟩
  · have hd : decide (f ≤ m) = false := decide_eq_false hf
    rw [hd, Bool.false_and]
    go_enter Try.func52, Try.ntmps52
    go_wp2
    go_region
    go_wp2
    go_returns
    exact ⟨rfl, by go_grown⟩

set_option maxHeartbeats 1000000 in
theorem impl_PowerNeeded (p m l f s : Int) (w : World) :
    Calls Try.prog 27 #[.agg #[.int .i64 p, .int .i64 m, .int .i64 l], .int .i64 f, .int .i64 s] w fun e w' => e = .returned (.tuple #[.int .i64 (needN p m l f s), .int .i64 (needC p m l f s)]) ∧ Below w.heap.size w w' := by
  have kf := fun W => impl_isForce f W
  have ks := fun W => impl_isPace s W
  have km := fun fine W => impl_motored p m l fine W
  cases hk : motorOk p m l
  · obtain ⟨e1, e2⟩ := need_1 (f := f) (s := s) hk
    rw [e1, e2]
    clear e1 e2
    rw [hk] at km
    cases hf : inB f (-1000000) 1000000 <;> cases hs : inB s 0 20000 <;> rw [hf] at kf <;> rw [hs] at ks
    all_goals
      go_enter Try.func27, Try.ntmps27
      go_wp2
      (refine wp_region_cls (by kernel_rfl) (by kernel_rfl) ?_; (repeat (go_big_quiet_step ((first | (go_at_call 23; exact cls_S (kf _)) | (go_at_call 24; exact cls_S (ks _)) | (go_at_call 26; exact cls_B (km _ _)))))); refine wpQuiet_nil ?_; rintro _ ⟨u, rfl⟩; have hb := u.below; generalize u.w = w' at *; obtain ⟨hc, hf⟩ := bcell hb; have hz : w.heap.size < w'.heap.size := (by have := hb.size; (try simp at this); omega); have hB : Below w.heap.size w w' := Below.trans (by go_grown) (hb.mono (by go_size)))
      go_wp2
      go_returns
      exact ⟨rfl, by go_grown⟩
  · rw [hk] at km
    cases hfs : (inB f (-1000000) 1000000 && inB s 0 20000)
    · obtain ⟨e1, e2⟩ := need_2 hk hfs
      rw [e1, e2]
      clear e1 e2
      cases hf : inB f (-1000000) 1000000 <;> cases hs : inB s 0 20000 <;> rw [hf] at kf <;> rw [hs] at ks <;> simp [hf, hs] at hfs
      all_goals
        go_enter Try.func27, Try.ntmps27
        go_wp2
        (refine wp_region_cls (by kernel_rfl) (by kernel_rfl) ?_; (repeat (go_big_quiet_step ((first | (go_at_call 23; exact cls_S (kf _)) | (go_at_call 24; exact cls_S (ks _)) | (go_at_call 26; exact cls_B (km _ _)))))); refine wpQuiet_nil ?_; rintro _ ⟨u, rfl⟩; have hb := u.below; generalize u.w = w' at *; obtain ⟨hc, hf⟩ := bcell hb; have hz : w.heap.size < w'.heap.size := (by have := hb.size; (try simp at this); omega); have hB : Below w.heap.size w w' := Below.trans (by go_grown) (hb.mono (by go_size)))
        go_wp2
        go_returns
        exact ⟨rfl, by go_grown⟩
    · rw [Bool.and_eq_true] at hfs
      obtain ⟨hf, hs⟩ := hfs
      have f1 := inB_true.1 hf
      have s1 := inB_true.1 hs
      obtain ⟨_, _, l0, l1⟩ := motorOk_bd hk
      have kc := fun W => impl_canDo p m l f s W f1.1 f1.2 s1.1 s1.2 l0 l1
      have kp := fun W => impl_power p m l f s W f1.1 f1.2 s1.1 s1.2 l0 l1
      rw [hf] at kf
      rw [hs] at ks
      cases hc : canV p m l f s
      · obtain ⟨e1, e2⟩ := need_3 hk hf hs hc
        rw [e1, e2]
        clear e1 e2
        rw [hc] at kc
        go_enter Try.func27, Try.ntmps27
        go_wp2
        (refine wp_region_cls (by kernel_rfl) (by kernel_rfl) ?_; (repeat (go_big_quiet_step ((first | (go_at_call 23; exact cls_S (kf _)) | (go_at_call 24; exact cls_S (ks _)) | (go_at_call 26; exact cls_B (km _ _)))))); refine wpQuiet_nil ?_; rintro _ ⟨u, rfl⟩; have hb := u.below; generalize u.w = w' at *; obtain ⟨hc, hf⟩ := bcell hb; have hz : w.heap.size < w'.heap.size := (by have := hb.size; (try simp at this); omega); have hB : Below w.heap.size w w' := Below.trans (by go_grown) (hb.mono (by go_size)))
        go_wp2_with fail
        refine (kc _).mono ?_
        rintro e w1 ⟨rfl, hb1⟩
        go_wp2_with fail
        go_returns
        exact ⟨rfl, Below.trans (by go_grown) (hb1.mono (by go_size))⟩
      · obtain ⟨e1, e2⟩ := need_0 hk hf hs hc
        rw [e1, e2]
        clear e1 e2
        rw [hc] at kc
        generalize powV l f s = V at *
        go_enter Try.func27, Try.ntmps27
        go_wp2
        (refine wp_region_cls (by kernel_rfl) (by kernel_rfl) ?_; (repeat (go_big_quiet_step ((first | (go_at_call 23; exact cls_S (kf _)) | (go_at_call 24; exact cls_S (ks _)) | (go_at_call 26; exact cls_B (km _ _)))))); refine wpQuiet_nil ?_; rintro _ ⟨u, rfl⟩; have hb := u.below; generalize u.w = w' at *; obtain ⟨hc, hf⟩ := bcell hb; have hz : w.heap.size < w'.heap.size := (by have := hb.size; (try simp at this); omega); have hB : Below w.heap.size w w' := Below.trans (by go_grown) (hb.mono (by go_size)))
        go_wp2_with (first | (go_at_call 52; (with_reducible refine (kc _).mono ?_); rintro e w' ⟨rfl, hb⟩; obtain ⟨hc, hf⟩ := bcell hb; have hz : w.heap.size < w'.heap.size := (by have := hb.size; (try simp at this); omega); have hB : Below w.heap.size w w' := Below.trans (by go_grown) (hb.mono (by go_size))) | (go_at_call 53; (with_reducible refine (kp _).mono ?_); rintro e w' ⟨rfl, hb⟩; obtain ⟨hc, hf⟩ := bcell hb; have hz : w.heap.size < w'.heap.size := (by have := hb.size; (try simp at this); omega); have hB : Below w.heap.size w w' := Below.trans (by go_grown) (hb.mono (by go_size))))
        go_returns
        exact ⟨rfl, by go_grown⟩

set_option maxHeartbeats 1000000 in
theorem spec_l10Need (g o : Nat) (p m l f s : Int) (w : World) (hk : motorOk p m l = true) (h1 : -1000000 ≤ f) (h2 : f ≤ 1000000) (h3 : 0 ≤ s) (h4 : s ≤ 20000)
    (c0 : w.cell? ⟨g, o, none⟩ = some (.int .i64 p)) (c1 : w.cell? ⟨g, o + 1, none⟩ = some (.int .i64 m)) (c2 : w.cell? ⟨g, o + 2, none⟩ = some (.int .i64 l)) :
    Calls Try.prog 32 #[.pointer (some ⟨g, o, none⟩), .int .i64 f, .int .i64 s] w fun e w' => e = .returned (.tuple #[.int .i64 (if m < f then 0 else powV l f s), .bool (canV p m l f s)]) ∧ Below w.heap.size w w' := by
  obtain ⟨⟨p0, p1⟩, ⟨m0, m1⟩, l0, l1⟩ := motorOk_bd hk
  have hb := fs_bd h1 h2 h3 h4
  have hw := work_bd h1 h2 h3 h4
  have hx : (f * s).tdiv 1000 = workV f s := rfl
  have hp : powV l f s = if 0 < workV f s then upV (1000 * workV f s) (1000 - l) else -((-workV f s * (1000 - l)).tdiv 1000) := rfl
  have hc : canV p m l f s = (decide (f ≤ m) && decide (powV l f s ≤ p)) := rfl
  rw [hc, hp]
  clear hp hc
  generalize workV f s = x at *
  by_cases hf : m < f
  · have hf' : ¬ f ≤ m := by omega
    rw [decide_eq_false hf', Bool.false_and, if_pos hf]
    clear hx hw hb
    go_enter Try.func32, Try.ntmps32
    go_wp2
    go_returns
    exact ⟨rfl, by go_grown⟩
  · have hf' : f ≤ m := by omega
    rw [decide_eq_true hf', Bool.true_and, if_neg hf]
    by_cases h0 : 0 < x
    · rw [if_pos h0]
      have hu : upV (1000 * x) (1000 - l) = (1000 * x + 999 - l) / (1000 - l) := by unfold upV; congr 1; omega
      have hub := upV_bound (a := 1000 * x) (b := 1000 - l) (by omega) (by omega)
      rw [hu] at hub ⊢
      have hd : (1000 * x + 999 - l).tdiv (1000 - l) = (1000 * x + 999 - l) / (1000 - l) := Int.tdiv_eq_ediv_of_nonneg (by omega)
      generalize (1000 * x + 999 - l) / (1000 - l) = U at *
      have l2 : ¬ 1000 - l = 0 := by omega
      have l3 : (1000 - l == 0) = false := beq_eq_false_iff_ne.2 l2
      go_enter Try.func32, Try.ntmps32
      go_wp2
      go_region
      go_wp2
      go_region
      go_wp2
      go_returns
      exact ⟨rfl, by go_grown⟩
    · rw [if_neg h0]
      have hm := mul_bd (x := -x) (a := 20000000) (y := 1000 - l) (b := 1000) (by omega) (by omega) (by omega) (by omega)
      have hd : 0 ≤ -x * (1000 - l) / 1000 ∧ -x * (1000 - l) / 1000 ≤ 20000000 := by omega
      have ht : (-x * (1000 - l)).tdiv 1000 = -x * (1000 - l) / 1000 := Int.tdiv_eq_ediv_of_nonneg hm.1
      rw [ht, decide_eq_true (show -(-x * (1000 - l) / 1000) ≤ p by omega)]
      go_enter Try.func32, Try.ntmps32
      go_wp2
      go_returns
      exact ⟨rfl, by go_grown⟩

set_option maxHeartbeats 1000000 in
theorem spec_PowerNeeded (p m l f s : Int) (w : World) :
    Calls Try.prog 7 #[.agg #[.int .i64 p, .int .i64 m, .int .i64 l], .int .i64 f, .int .i64 s] w fun e w' => e = .returned (.tuple #[.int .i64 (needN p m l f s), .int .i64 (needC p m l f s)]) ∧ Below w.heap.size w w' := by
  have kf := fun W => spec_l10Force f W
  have ks := fun W => spec_l10Speed s W
  have km := fun W h1 h2 h3 => spec_l10Ok w.heap.size 0 p m l W h1 h2 h3
  cases hk : motorOk p m l
  · obtain ⟨e1, e2⟩ := need_1 (f := f) (s := s) hk
    rw [e1, e2]
    clear e1 e2
    rw [hk] at km
    go_enter Try.func7, Try.ntmps7
    go_wp2_with (go_at_call 29; (with_reducible refine (km _ (by go_cell) (by go_cell) (by go_cell)).mono ?_); rintro e w' ⟨rfl, rfl⟩)
    go_returns
    exact ⟨rfl, by go_grown⟩
  · rw [hk] at km
    cases hfs : (inB f (-1000000) 1000000 && inB s 0 20000)
    · obtain ⟨e1, e2⟩ := need_2 hk hfs
      rw [e1, e2]
      clear e1 e2
      cases hf : inB f (-1000000) 1000000 <;> cases hs : inB s 0 20000 <;> rw [hf] at kf <;> rw [hs] at ks <;> simp [hf, hs] at hfs
      all_goals
        go_enter Try.func7, Try.ntmps7
        go_wp2_with (first | (go_at_call 29; (with_reducible refine (km _ (by go_cell) (by go_cell) (by go_cell)).mono ?_); rintro e w' ⟨rfl, rfl⟩) | (go_at_call 30; (with_reducible refine (kf _).mono ?_); rintro e w' ⟨rfl, rfl⟩) | (go_at_call 31; (with_reducible refine (ks _).mono ?_); rintro e w' ⟨rfl, rfl⟩))
        go_returns
        exact ⟨rfl, by go_grown⟩
    · rw [Bool.and_eq_true] at hfs
      obtain ⟨hf, hs⟩ := hfs
      have f1 := inB_true.1 hf
      have s1 := inB_true.1 hs
      have kc := fun W h5 h6 h7 => spec_l10Need w.heap.size 0 p m l f s W hk f1.1 f1.2 s1.1 s1.2 h5 h6 h7
      rw [hf] at kf
      rw [hs] at ks
      cases hc : canV p m l f s
      · obtain ⟨e1, e2⟩ := need_3 hk hf hs hc
        rw [e1, e2]
        clear e1 e2
        rw [hc] at kc
        generalize (if m < f then 0 else powV l f s) = v at kc
        go_enter Try.func7, Try.ntmps7
        go_wp2_with (first | (go_at_call 29; (with_reducible refine (km _ (by go_cell) (by go_cell) (by go_cell)).mono ?_); rintro e w' ⟨rfl, rfl⟩) | (go_at_call 30; (with_reducible refine (kf _).mono ?_); rintro e w' ⟨rfl, rfl⟩) | (go_at_call 31; (with_reducible refine (ks _).mono ?_); rintro e w' ⟨rfl, rfl⟩) | fail)
        refine (kc _ (by go_cell) (by go_cell) (by go_cell)).mono ?_
        rintro e w1 ⟨rfl, hb1⟩
        go_wp2_with fail
        go_returns
        exact ⟨rfl, Below.trans (by go_grown) (hb1.mono (by go_size))⟩
      · obtain ⟨e1, e2⟩ := need_0 hk hf hs hc
        rw [e1, e2]
        clear e1 e2
        rw [hc] at kc
        have hmf : ¬ m < f := by
          unfold canV at hc
          rw [Bool.and_eq_true, decide_eq_true_eq] at hc
          omega
        rw [if_neg hmf] at kc
        generalize powV l f s = V at *
        go_enter Try.func7, Try.ntmps7
        go_wp2_with (first | (go_at_call 29; (with_reducible refine (km _ (by go_cell) (by go_cell) (by go_cell)).mono ?_); rintro e w' ⟨rfl, rfl⟩) | (go_at_call 30; (with_reducible refine (kf _).mono ?_); rintro e w' ⟨rfl, rfl⟩) | (go_at_call 31; (with_reducible refine (ks _).mono ?_); rintro e w' ⟨rfl, rfl⟩) | fail)
        refine (kc _ (by go_cell) (by go_cell) (by go_cell)).mono ?_
        rintro e w1 ⟨rfl, hb1⟩
        go_wp2_with fail
        go_returns
        exact ⟨rfl, Below.trans (by go_grown) (hb1.mono (by go_size))⟩

theorem impl_areForces_1 (z : Int) (w : World) : Calls Try.prog 56 #[.int .i64 z] w fun e w' => e = .returned (.bool (!inB z (-1000000) 1000000)) ∧ w = w' := by
  go_enter Try.func56, Try.ntmps56
  go_wp2_with (go_at_call 23; go_call impl_isForce as e w' ⟨rfl, rfl⟩)
  go_returns
  exact ⟨rfl, rfl⟩
theorem impl_areForces_1_index (a : Option Addr) (n c : Nat) (Z : Nat → Int) (w : World) (hz : IntsAt w a n Z) (hn : n ≤ 1048576) :
    Calls Try.prog 57 #[.slice a n c, .func (.func 56) #[] #[]] w fun e w' => e = .returned (.int .i64 (idx (fun j => !inB (Z j) (-1000000) 1000000) n)) ∧ w = w' := by
  have hq : ∀ j, (fun j => !inB (Z j) (-1000000) 1000000) j = !inB (Z j) (-1000000) 1000000 := fun _ => rfl
  generalize (fun j => !inB (Z j) (-1000000) 1000000) = q at *
  have hF := fun j W => impl_areForces_1 (Z j) W
  go_enter Try.func57, Try.ntmps57
  go_wp2
  go_loop [8] (fun i => ∃ k : Nat, k ≤ n ∧ i = .int .i64 k ∧ fst q k = k) (fun i => n - (intOf i).toNat)
  case atStart => exact ⟨0, by omega, rfl, rfl⟩
  case round =>
    obtain ⟨k, hk, rfl, hr⟩ := hrel
    by_cases hlt : k < n
    · obtain ⟨b, o, rfl, hb, hc⟩ := hz (by omega)
      have ck := hc k hlt
      have hk1 := hq k
      have cF := hF k
      rw [← hk1] at cF
      clear hk1 hq hF hc
      cases hqk : q k
      · rw [hqk] at cF
        have H := Lib.hid (fst_miss hr hqk)
        clear hr hqk
        go_wp2_with (go_at_call 56; (with_reducible refine (cF _).mono ?_); rintro e w' ⟨rfl, rfl⟩)
        go_round
        case rel => exact ⟨k + 1, by omega, by go_num, H.out⟩
        case measure => simp [intOf]; omega
      · rw [hqk] at cF
        have hfin : idx q n = k := by unfold idx; rw [fst_hit hr hqk hlt, if_pos hlt]
        have H := Lib.hid hfin
        clear hr hqk hfin
        go_wp2_with (go_at_call 56; (with_reducible refine (cF _).mono ?_); rintro e w' ⟨rfl, rfl⟩)
        go_ret
        exact ⟨by rw [H.out]; rfl, rfl⟩
    · obtain rfl : k = n := by omega
      have hfin : idx q k = -1 := by unfold idx; rw [hr, if_neg (by omega)]
      have H := Lib.hid hfin
      clear hr hfin
      go_wp2
      go_ret
      exact ⟨by rw [H.out]; rfl, rfl⟩
theorem impl_areForces_1_contains (a : Option Addr) (n c : Nat) (Z : Nat → Int) (w : World) (hz : IntsAt w a n Z) (hn : n ≤ 1048576) :
    Calls Try.prog 41 #[.slice a n c, .func (.func 56) #[] #[]] w fun e w' => e = .returned (.bool (any (fun j => !inB (Z j) (-1000000) 1000000) n)) ∧ w = w' := by
  have hi := fun W h => impl_areForces_1_index a n c Z W h hn
  rw [← idx_ge]
  generalize idx (fun j => !inB (Z j) (-1000000) 1000000) n = I at *
  go_enter Try.func41, Try.ntmps41
  go_wp2_with (go_at_call 57; (with_reducible refine (hi _ hz).mono ?_); rintro e w' ⟨rfl, rfl⟩)
  go_ret
  exact ⟨rfl, rfl⟩

theorem impl_areForces (a : Option Addr) (n c : Nat) (Z : Nat → Int) (w : World) (hz : IntsAt w a n Z) (hn : n ≤ 1048576) :
    Calls Try.prog 40 #[.slice a n c] w fun e w' => e = .returned (.bool (forcesOk Z n)) ∧ w = w' := by
  have kc := fun W h => impl_areForces_1_contains a n c Z W h hn
  have e0 : forcesOk Z n = (decide (n ≤ 60) && !any (fun j => !inB (Z j) (-1000000) 1000000) n) := rfl
  rw [e0]
  clear e0
  generalize any (fun j => !inB (Z j) (-1000000) 1000000) n = A at *
  by_cases h2 : n ≤ 60
  · have h2' : (n : Int) ≤ 60 := by omega
    rw [decide_eq_true h2, Bool.true_and]
    go_enter Try.func40, Try.ntmps40
    go_wp2_with (go_at_call 41; (with_reducible refine (kc _ hz).mono ?_); rintro e w' ⟨rfl, rfl⟩)
    go_returns
    exact ⟨rfl, rfl⟩
  · have h2' : ¬ (n : Int) ≤ 60 := by omega
    rw [decide_eq_false h2, Bool.false_and]
    go_enter Try.func40, Try.ntmps40
    go_wp2_with (go_at_call 41; (with_reducible refine (kc _ hz).mono ?_); rintro e w' ⟨rfl, rfl⟩)
    go_returns
    exact ⟨rfl, rfl⟩

theorem impl_PeakFree_1 (z : Int) (w : World) : Calls Try.prog 42 #[.int .i64 z] w fun e w' => e = .returned (.bool (decide (z < 0))) ∧ w = w' := by
  go_enter Try.func42, Try.ntmps42
  go_wp2
  go_returns
  exact ⟨rfl, rfl⟩
theorem impl_PeakFree_1_index (a : Option Addr) (n c : Nat) (Z : Nat → Int) (w : World) (hz : IntsAt w a n Z) (hn : n ≤ 1048576) :
    Calls Try.prog 57 #[.slice a n c, .func (.func 42) #[] #[]] w fun e w' => e = .returned (.int .i64 (idx (fun j => decide (Z j < 0)) n)) ∧ w = w' := by
  have hq : ∀ j, (fun j => decide (Z j < 0)) j = decide (Z j < 0) := fun _ => rfl
  generalize (fun j => decide (Z j < 0)) = q at *
  have hF := fun j W => impl_PeakFree_1 (Z j) W
  go_enter Try.func57, Try.ntmps57
  go_wp2
  go_loop [8] (fun i => ∃ k : Nat, k ≤ n ∧ i = .int .i64 k ∧ fst q k = k) (fun i => n - (intOf i).toNat)
  case atStart => exact ⟨0, by omega, rfl, rfl⟩
  case round =>
    obtain ⟨k, hk, rfl, hr⟩ := hrel
    by_cases hlt : k < n
    · obtain ⟨b, o, rfl, hb, hc⟩ := hz (by omega)
      have ck := hc k hlt
      have hk1 := hq k
      have cF := hF k
      rw [← hk1] at cF
      clear hk1 hq hF hc
      cases hqk : q k
      · rw [hqk] at cF
        have H := Lib.hid (fst_miss hr hqk)
        clear hr hqk
        go_wp2_with (go_at_call 42; (with_reducible refine (cF _).mono ?_); rintro e w' ⟨rfl, rfl⟩)
        go_round
        case rel => exact ⟨k + 1, by omega, by go_num, H.out⟩
        case measure => simp [intOf]; omega
      · rw [hqk] at cF
        have hfin : idx q n = k := by unfold idx; rw [fst_hit hr hqk hlt, if_pos hlt]
        have H := Lib.hid hfin
        clear hr hqk hfin
        go_wp2_with (go_at_call 42; (with_reducible refine (cF _).mono ?_); rintro e w' ⟨rfl, rfl⟩)
        go_ret
        exact ⟨by rw [H.out]; rfl, rfl⟩
    · obtain rfl : k = n := by omega
      have hfin : idx q k = -1 := by unfold idx; rw [hr, if_neg (by omega)]
      have H := Lib.hid hfin
      clear hr hfin
      go_wp2
      go_ret
      exact ⟨by rw [H.out]; rfl, rfl⟩
theorem impl_PeakFree_1_contains (a : Option Addr) (n c : Nat) (Z : Nat → Int) (w : World) (hz : IntsAt w a n Z) (hn : n ≤ 1048576) :
    Calls Try.prog 41 #[.slice a n c, .func (.func 42) #[] #[]] w fun e w' => e = .returned (.bool (any (fun j => decide (Z j < 0)) n)) ∧ w = w' := by
  have hi := fun W h => impl_PeakFree_1_index a n c Z W h hn
  rw [← idx_ge]
  generalize idx (fun j => decide (Z j < 0)) n = I at *
  go_enter Try.func41, Try.ntmps41
  go_wp2_with (go_at_call 57; (with_reducible refine (hi _ hz).mono ?_); rintro e w' ⟨rfl, rfl⟩)
  go_ret
  exact ⟨rfl, rfl⟩

theorem impl_CheapestHours_1 (z : Int) (w : World) : Calls Try.prog 43 #[.int .i64 z] w fun e w' => e = .returned (.bool (!inB z 0 10000)) ∧ w = w' := by
  go_enter Try.func43, Try.ntmps43
  go_wp2_with (go_at_call 25; go_call impl_within as e w' ⟨rfl, rfl⟩)
  go_returns
  exact ⟨rfl, rfl⟩
theorem impl_CheapestHours_1_index (a : Option Addr) (n c : Nat) (Z : Nat → Int) (w : World) (hz : IntsAt w a n Z) (hn : n ≤ 1048576) :
    Calls Try.prog 57 #[.slice a n c, .func (.func 43) #[] #[]] w fun e w' => e = .returned (.int .i64 (idx (fun j => !inB (Z j) 0 10000) n)) ∧ w = w' := by
  have hq : ∀ j, (fun j => !inB (Z j) 0 10000) j = !inB (Z j) 0 10000 := fun _ => rfl
  generalize (fun j => !inB (Z j) 0 10000) = q at *
  have hF := fun j W => impl_CheapestHours_1 (Z j) W
  go_enter Try.func57, Try.ntmps57
  go_wp2
  go_loop [8] (fun i => ∃ k : Nat, k ≤ n ∧ i = .int .i64 k ∧ fst q k = k) (fun i => n - (intOf i).toNat)
  case atStart => exact ⟨0, by omega, rfl, rfl⟩
  case round =>
    obtain ⟨k, hk, rfl, hr⟩ := hrel
    by_cases hlt : k < n
    · obtain ⟨b, o, rfl, hb, hc⟩ := hz (by omega)
      have ck := hc k hlt
      have hk1 := hq k
      have cF := hF k
      rw [← hk1] at cF
      clear hk1 hq hF hc
      cases hqk : q k
      · rw [hqk] at cF
        have H := Lib.hid (fst_miss hr hqk)
        clear hr hqk
        go_wp2_with (go_at_call 43; (with_reducible refine (cF _).mono ?_); rintro e w' ⟨rfl, rfl⟩)
        go_round
        case rel => exact ⟨k + 1, by omega, by go_num, H.out⟩
        case measure => simp [intOf]; omega
      · rw [hqk] at cF
        have hfin : idx q n = k := by unfold idx; rw [fst_hit hr hqk hlt, if_pos hlt]
        have H := Lib.hid hfin
        clear hr hqk hfin
        go_wp2_with (go_at_call 43; (with_reducible refine (cF _).mono ?_); rintro e w' ⟨rfl, rfl⟩)
        go_ret
        exact ⟨by rw [H.out]; rfl, rfl⟩
    · obtain rfl : k = n := by omega
      have hfin : idx q k = -1 := by unfold idx; rw [hr, if_neg (by omega)]
      have H := Lib.hid hfin
      clear hr hfin
      go_wp2
      go_ret
      exact ⟨by rw [H.out]; rfl, rfl⟩
theorem impl_CheapestHours_1_contains (a : Option Addr) (n c : Nat) (Z : Nat → Int) (w : World) (hz : IntsAt w a n Z) (hn : n ≤ 1048576) :
    Calls Try.prog 41 #[.slice a n c, .func (.func 43) #[] #[]] w fun e w' => e = .returned (.bool (any (fun j => !inB (Z j) 0 10000) n)) ∧ w = w' := by
  have hi := fun W h => impl_CheapestHours_1_index a n c Z W h hn
  rw [← idx_ge]
  generalize idx (fun j => !inB (Z j) 0 10000) n = I at *
  go_enter Try.func41, Try.ntmps41
  go_wp2_with (go_at_call 57; (with_reducible refine (hi _ hz).mono ?_); rintro e w' ⟨rfl, rfl⟩)
  go_ret
  exact ⟨rfl, rfl⟩

end Go.Proofs.Ytejhngkbkcalaaa
