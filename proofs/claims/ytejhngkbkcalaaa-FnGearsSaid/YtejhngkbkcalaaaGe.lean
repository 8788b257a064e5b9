/-
  Contracts: gears, warm motors, rounded quotients and sums of the laws.
-/
import Derived.Test.YtejhngkbkcalaaaMc
import Derived.Test.YtejhngkbkcalaaaHd
import Derived.Test.YtejhngkbkcalaaaR3
import Derived.Deep.DeepCutAuto
namespace Go.Proofs.Ytejhngkbkcalaaa
open Go.RowKit
set_option linter.unusedVariables false
set_option linter.unusedSimpArgs false


theorem laws_b10Div_pos (a b : Int) (w : World) (h1 : 0 ≤ a) (h2 : a ≤ 4000000000000000000) (h3 : 1 ≤ b) (h4 : b ≤ 1000000000000000000) :
    Calls Try.prog 8 #[.int .i64 a, .int .i64 b] w fun e w' => e = .returned (.int .i64 (nearV a b)) ∧ w = w' := by
  have hb0 : (2 * b == 0) = false := beq_eq_false_iff_ne.2 (by omega)
  have hb1 : decide (b < 0) = false := by simp; omega
  have hn : decide (a < 0) = false := by simp; omega
  go_enter Try.func8, Try.ntmps8
  go_wp2
  go_returns
  exact ⟨by rw [nearV, if_pos h1]; rfl, rfl⟩
theorem laws_b10Div (a b : Int) (w : World) (h1 : -4000000000000000000 ≤ a) (h2 : a ≤ 4000000000000000000) (h3 : 1 ≤ b) (h4 : b ≤ 1000000000000000000) :
    Calls Try.prog 8 #[.int .i64 a, .int .i64 b] w fun e w' => e = .returned (.int .i64 (nearV a b)) ∧ w = w' := by
  by_cases h0 : 0 ≤ a
  · exact laws_b10Div_pos a b w h0 h2 h3 h4
  · have kp := fun W => laws_b10Div_pos (-a) b W (by omega) (by omega) h3 h4
    have hnb := near_bound' (a := -a) (b := b) h3
    have e : nearV a b = -nearV (-a) b := by
      unfold nearV
      rw [if_neg h0, if_pos (by omega), show b - 2 * a = 2 * -a + b by omega]
    rw [e]
    generalize nearV (-a) b = X at *
    have hn : decide (a < 0) = true := by simp; omega
    go_enter Try.func8, Try.ntmps8
    go_wp2_with (go_at_call 8; (with_reducible refine (kp _).mono ?_); rintro e w' ⟨rfl, rfl⟩)
    go_returns
    exact ⟨rfl, rfl⟩

theorem sumV_bd {Z : Nat → Int} {n : Nat} (h : ∀ j, j < n → -1000000000 ≤ Z j ∧ Z j ≤ 1000000000) : ∀ k : Nat, k ≤ n → -1000000000 * (k : Int) ≤ sumV Z k ∧ sumV Z k ≤ 1000000000 * (k : Int)
  | 0, _ => by simp [sumV]
  | k + 1, hk => by
    have ih := sumV_bd h k (by omega)
    have := h k (by omega)
    rw [sumV_succ]
    omega
theorem laws_b10Sum (a : Option Addr) (n c : Nat) (Z : Nat → Int) (w : World) (hz : IntsAt w a n Z) (hn : n ≤ 1000) (hbd : ∀ j, j < n → -1000000000 ≤ Z j ∧ Z j ≤ 1000000000) :
    Calls Try.prog 14 #[.slice a n c] w fun e w' => e = .returned (.int .i64 (sumV Z n)) ∧ w = w' := by
  have HB := Lib.hid hbd
  clear hbd
  go_enter Try.func14, Try.ntmps14
  go_wp2
  go_loop [3, 4] (fun q i => ∃ k : Nat, k ≤ n ∧ i = .int .i64 k ∧ q = .int .i64 (sumV Z k)) (fun _ i => n - (intOf i).toNat)
  case atStart => exact ⟨0, by omega, rfl, rfl⟩
  case round =>
    obtain ⟨k, hk, rfl, rfl⟩ := hrel
    by_cases hlt : k < n
    · obtain ⟨b, o, rfl, hb, hc⟩ := hz (by omega)
      have ck := hc k hlt
      have zk := HB.out k hlt
      have sk := sumV_bd HB.out k (by omega)
      have H := Lib.hid (sumV_succ Z k)
      clear hc
      generalize sumV Z k = S at *
      go_wp2
      go_round
      case rel => exact ⟨k + 1, by omega, by go_num, by rw [H.out]⟩
      case measure => simp [intOf]; omega
    · obtain rfl : k = n := by omega
      go_wp2
      go_ret
      exact ⟨rfl, rfl⟩

theorem impl_heated (a h c : Int) (w : World) : Calls Try.prog 35 #[.int .i64 a, .int .i64 h, .int .i64 c] w fun e w' => e = .returned (.bool (heatsOk a h c)) ∧ w = w' := by
  have k1 := fun W => impl_within a 0 100000 W
  have k2 := fun W => impl_isShare h W
  have k3 := fun W => impl_isShare c W
  unfold heatsOk
  cases h1 : inB a 0 100000 <;> cases h2 : inB h 0 1000 <;> cases h3 : inB c 0 1000 <;> rw [h1] at k1 <;> rw [h2] at k2 <;> rw [h3] at k3
  all_goals
    go_enter Try.func35, Try.ntmps35
    go_wp2_with (first | (go_at_call 25; (with_reducible refine (k1 _).mono ?_); rintro e w' ⟨rfl, rfl⟩) | (go_at_call 44; (with_reducible refine (k2 _).mono ?_); rintro e w' ⟨rfl, rfl⟩) | (go_at_call 44; (with_reducible refine (k3 _).mono ?_); rintro e w' ⟨rfl, rfl⟩))
    go_returns
    exact ⟨rfl, rfl⟩

theorem impl_warmer (a h c : Int) (w : World) (a0 : 0 ≤ a) (a1 : a ≤ 1000000) (h0 : 0 ≤ h) (h1 : h ≤ 1000) (c0 : 0 ≤ c) (c1 : c ≤ 1000) :
    Calls Try.prog 36 #[.int .i64 a, .int .i64 h, .int .i64 c] w fun e w' => e = .returned (.int .i64 (a + h - nearV ((a + h) * c) 1000)) ∧ Below w.heap.size w w' := by
  have hm := mul_bd (x := a + h) (a := 1001000) (y := c) (b := 1000) (by omega) (by omega) c0 c1
  have hn := near_share (x := a + h) (c := c) (by omega) c0 c1
  have kn := fun W => impl_nearest ((a + h) * c) 1000 W (by omega) (by omega) (by omega) (by omega)
  generalize nearV ((a + h) * c) 1000 = X at *
  go_enter Try.func36, Try.ntmps36
  go_wp2_with (go_at_call 28; (with_reducible refine (kn _).mono ?_); rintro e w' ⟨rfl, hb⟩; obtain ⟨hc, hf⟩ := bcell hb; have hz : w.heap.size ≤ w'.heap.size := (by have := hb.size; (try simp at this); omega); have hB : Below w.heap.size w w' := Below.trans (by go_grown) (hb.mono (by go_size)))
  go_returns
  exact ⟨rfl, by go_grown⟩

theorem heats_bd {a h c : Int} (hk : heatsOk a h c = true) : (0 ≤ a ∧ a ≤ 100000) ∧ (0 ≤ h ∧ h ≤ 1000) ∧ 0 ≤ c ∧ c ≤ 1000 := by
  unfold heatsOk at hk
  rw [Bool.and_eq_true, Bool.and_eq_true, inB_true, inB_true, inB_true] at hk
  omega
theorem heat_up {a h c : Int} (hk : heatsOk a h c = true) {k : Nat} (h60 : k ≤ 61) : 0 ≤ heatV a h c k ∧ heatV a h c k ≤ 200000 := by
  obtain ⟨⟨a0, a1⟩, ⟨h0, h1⟩, c0, c1⟩ := heats_bd hk
  have := heat_bd a0 h0 c0 c1 k
  have m := Int.mul_le_mul h1 (show (k : Int) ≤ 61 by omega) (by omega) (by omega)
  omega
theorem heatV_succ (a h c : Int) (k : Nat) : heatV a h c (k + 1) = heatV a h c k + h - nearV ((heatV a h c k + h) * c) 1000 := rfl
set_option maxHeartbeats 1000000 in
theorem impl_HeatAfter (a h c n : Int) (w : World) :
    Calls Try.prog 11 #[.int .i64 a, .int .i64 h, .int .i64 c, .int .i64 n] w fun e w' => e = .returned (.tuple #[.int .i64 (aftN a h c n), .int .i64 (aftE a h c n)]) ∧ Below w.heap.size w w' := by
  have k1 := fun W => impl_heated a h c W
  have k2 := fun W => impl_within n 0 60 W
  cases hk : (heatsOk a h c && inB n 0 60)
  · have e1 : aftE a h c n = 2 := by unfold aftE; rw [hk]; rfl
    have e2 : aftN a h c n = 0 := by unfold aftN; rw [e1]; rfl
    rw [e1, e2]
    clear e1 e2
    cases h1 : heatsOk a h c <;> cases h2 : inB n 0 60 <;> rw [h1] at k1 <;> rw [h2] at k2 <;> simp [h1, h2] at hk
    all_goals
      go_enter Try.func11, Try.ntmps11
      go_wp2_with (first | (go_at_call 35; (with_reducible refine (k1 _).mono ?_); rintro e w' ⟨rfl, rfl⟩) | (go_at_call 25; (with_reducible refine (k2 _).mono ?_); rintro e w' ⟨rfl, rfl⟩))
      go_returns
      exact ⟨rfl, Below.refl _ _⟩
  · have e1 : aftE a h c n = 0 := by unfold aftE; rw [hk]; rfl
    have e2 : aftN a h c n = heatV a h c n.toNat := by unfold aftN; rw [e1]; rfl
    rw [Bool.and_eq_true] at hk
    obtain ⟨hk, hn⟩ := hk
    rw [hk] at k1
    rw [hn] at k2
    obtain ⟨n0, n1⟩ := inB_true.1 hn
    obtain ⟨N, rfl⟩ : ∃ N : Nat, n = N := ⟨n.toNat, by omega⟩
    rw [Int.toNat_natCast] at e2
    rw [e1, e2]
    clear e1 e2 hn
    have HK := Lib.hid (fun k (hk' : k ≤ 61) => heat_up hk hk')
    obtain ⟨_, ⟨h0, h1⟩, c0, c1⟩ := heats_bd hk
    clear hk
    have hs : heatV a h c 0 = a := rfl
    go_enter Try.func11, Try.ntmps11
    go_wp2_with (first | (go_at_call 35; (with_reducible refine (k1 _).mono ?_); rintro e w' ⟨rfl, rfl⟩) | (go_at_call 25; (with_reducible refine (k2 _).mono ?_); rintro e w' ⟨rfl, rfl⟩))
    clear k1 k2
    go_loopw [0, 21] (fun x i wr => ∃ k : Nat, k ≤ N ∧ i = .int .i64 (k : Int) ∧ x = .int .i64 (heatV a h c k) ∧ Below w.heap.size w wr) (fun _ i _ => N - (intOf i).toNat)
    case atStart => exact ⟨0, by omega, rfl, rfl, Below.refl _ _⟩
    case round => as_aux_lemma =>
      obtain ⟨k, hk', rfl, rfl, hB⟩ := hrel
      by_cases hlt : k < N
      · obtain ⟨x0, x1⟩ := HK.out k (by omega)
        have HX := Lib.hid (heatV_succ a h c k)
        have kw := fun W => impl_warmer (heatV a h c k) h c W x0 (by omega) h0 h1 c0 c1
        generalize heatV a h c k + h - nearV ((heatV a h c k + h) * c) 1000 = Y at *
        generalize heatV a h c k = X at *
        have k0 : (k : Int) < (N : Int) := by omega
        go_wp2_with fail
        refine (kw _).mono ?_
        rintro e w1 ⟨rfl, hb⟩
        replace hB := hB.trans (hb.mono hB.size)
        go_wp2_with fail
        go_roundw
        case rel => exact ⟨k + 1, by omega, by go_num, by rw [HX.out], hB⟩
        case measure => simp [intOf]; omega
      · obtain rfl : k = N := by omega
        go_wp2
        go_returns
        exact ⟨rfl, hB⟩

theorem hotG_next {a h c t : Int} {k : Nat} (hr : hotG a h c t k = k) (hq : ¬ t < heatV a h c k) : hotG a h c t (k + 1) = k + 1 := fst_miss hr (show (fun j => decide (t < heatV a h c j)) k = false from decide_eq_false hq)
theorem hotG_hit {a h c t : Int} {k n : Nat} (hr : hotG a h c t k = k) (hq : t < heatV a h c k) (hk : k < n) : hotG a h c t n = k := fst_hit hr (show (fun j => decide (t < heatV a h c j)) k = true from decide_eq_true hq) hk
set_option maxHeartbeats 1000000 in
theorem impl_StepsToHot (a h c t : Int) (w : World) :
    Calls Try.prog 10 #[.int .i64 a, .int .i64 h, .int .i64 c, .int .i64 t] w fun e w' => e = .returned (.tuple #[.int .i64 (hotN a h c t), .int .i64 (hotE a h c t)]) ∧ Below w.heap.size w w' := by
  have k1 := fun W => impl_heated a h c W
  have k2 := fun W => impl_within t 0 1000000 W
  cases hk : (heatsOk a h c && inB t 0 1000000)
  · have e1 : hotE a h c t = 2 := by unfold hotE; rw [hk]; rfl
    have e2 : hotN a h c t = 0 := by unfold hotN; rw [e1]; rfl
    rw [e1, e2]
    clear e1 e2
    cases h1 : heatsOk a h c <;> cases h2 : inB t 0 1000000 <;> rw [h1] at k1 <;> rw [h2] at k2 <;> simp [h1, h2] at hk
    all_goals
      go_enter Try.func10, Try.ntmps10
      go_wp2_with (first | (go_at_call 35; (with_reducible refine (k1 _).mono ?_); rintro e w' ⟨rfl, rfl⟩) | (go_at_call 25; (with_reducible refine (k2 _).mono ?_); rintro e w' ⟨rfl, rfl⟩))
      go_returns
      exact ⟨rfl, Below.refl _ _⟩
  · have HE := Lib.hid (show hotE a h c t = if hotG a h c t 61 < 61 then 0 else 3 by unfold hotE hotF; rw [hk, if_pos rfl])
    have HN := Lib.hid (show hotN a h c t = if hotE a h c t = 0 then (hotG a h c t 61 : Int) else 0 from rfl)
    rw [Bool.and_eq_true] at hk
    obtain ⟨hk, hn⟩ := hk
    rw [hk] at k1
    rw [hn] at k2
    have HK := Lib.hid (fun k (hk' : k ≤ 61) => heat_up hk hk')
    obtain ⟨_, ⟨h0, h1⟩, c0, c1⟩ := heats_bd hk
    clear hk
    go_enter Try.func10, Try.ntmps10
    go_wp2_with (first | (go_at_call 35; (with_reducible refine (k1 _).mono ?_); rintro e w' ⟨rfl, rfl⟩) | (go_at_call 25; (with_reducible refine (k2 _).mono ?_); rintro e w' ⟨rfl, rfl⟩))
    clear k1 k2
    go_loopw [0, 10] (fun x i wr => ∃ k : Nat, k ≤ 61 ∧ i = .int .i64 (k : Int) ∧ x = .int .i64 (heatV a h c k) ∧ hotG a h c t k = k ∧ Below w.heap.size w wr) (fun _ i _ => 61 - (intOf i).toNat)
    case atStart => exact ⟨0, by omega, rfl, rfl, rfl, Below.refl _ _⟩
    case round => as_aux_lemma =>
      obtain ⟨k, hk', rfl, rfl, hr, hB⟩ := hrel
      obtain ⟨x0, x1⟩ := HK.out k (by omega)
      by_cases hlt : k ≤ 60
      · have k0 : (k : Int) ≤ 60 := by omega
        by_cases hq : t < heatV a h c k
        · have hg := hotG_hit hr hq (show k < 61 by omega)
          have e1 := HE.out
          rw [hg, if_pos (by omega)] at e1
          have e2 := HN.out
          rw [e1, if_pos rfl, hg] at e2
          have HF := Lib.hid (And.intro e1 e2)
          clear e1 e2 hg hr HE HN HK
          generalize heatV a h c k = X at *
          go_wp2
          refine bodyPost_ret (by simp [results, Try.results10, go_sem, *]; try rfl) rfl ?_
          exact ⟨by rw [HF.out.1, HF.out.2], hB⟩
        · have HG := Lib.hid (hotG_next hr hq)
          have HX := Lib.hid (heatV_succ a h c k)
          have kw := fun W => impl_warmer (heatV a h c k) h c W x0 (by omega) h0 h1 c0 c1
          clear hr HE HN HK
          generalize heatV a h c k + h - nearV ((heatV a h c k + h) * c) 1000 = Y at *
          generalize heatV a h c k = X at *
          go_wp2_with fail
          refine (kw _).mono ?_
          rintro e w1 ⟨rfl, hb⟩
          replace hB := hB.trans (hb.mono hB.size)
          go_wp2_with fail
          go_roundw
          case rel => exact ⟨k + 1, by omega, by go_num, by rw [HX.out], HG.out, hB⟩
          case measure => simp [intOf]; omega
      · obtain rfl : k = 61 := by omega
        have e1 := HE.out
        rw [hr, if_neg (by omega)] at e1
        have e2 := HN.out
        rw [e1, if_neg (by decide)] at e2
        have HF := Lib.hid (And.intro e1 e2)
        clear e1 e2 hr HE HN HK
        generalize heatV a h c 61 = X at *
        go_wp2
        refine bodyPost_ret (by simp [results, Try.results10, go_sem, *]; try rfl) rfl ?_
        exact ⟨by rw [HF.out.1, HF.out.2], hB⟩

theorem rises_succ (Z : Nat → Int) (lo hi : Int) (k : Nat) : rises Z lo hi (k + 1) = (rises Z lo hi k && (inB (Z k) lo hi && (k == 0 || decide (Z (k - 1) < Z k)))) := rfl
set_option maxHeartbeats 3000000 in
set_option maxRecDepth 100000 in
theorem impl_GearFor (p m l f s : Int) (a : Option Addr) (n c : Nat) (G : Nat → Int) (w : World) (hz : IntsAt w a n G) (hn : n ≤ 1048576) :
    Calls Try.prog 6 #[.agg #[.int .i64 p, .int .i64 m, .int .i64 l], .slice a n c, .int .i64 f, .int .i64 s] w
      fun e w' => e = .returned (.tuple #[.int .i64 (gearK p m l f s G n), .int .i64 (gearE p m l f s G n)]) ∧ Below w.heap.size w w' := by
  have kf := fun W => impl_isForce f W
  have ks := fun W => impl_isPace s W
  have km := fun fine W => impl_motored p m l fine W
  have HE := Lib.hid (show gearE p m l f s G n = if motorOk p m l = true then (if gearsOk G n f s = true then (if gearF p m l f s G n < n then 0 else 3) else 2) else 1 from rfl)
  have HK := Lib.hid (show gearK p m l f s G n = if gearE p m l f s G n = 0 then (gearF p m l f s G n : Int) else 0 from rfl)
  obtain ⟨B0, hB0⟩ : ∃ B0 : Bool, B0 = (decide (1 ≤ n) && decide (n ≤ 6) && inB f (-1000000) 1000000 && inB s 0 20000) := ⟨_, rfl⟩
  have HG := Lib.hid (show gearsOk G n f s = (B0 && rises G 100 10000 n) by rw [hB0]; rfl)
  have HB0 := Lib.hid hB0
  go_enter Try.func6, Try.ntmps6
  have bA : Below w.heap.size w (w.alloc (Obj.cells #[.int .i64 p, .int .i64 m, .int .i64 l] 25)) := Below.alloc (Below.refl _ _) (Nat.le_refl _) _
  have R0 := Row3.made w (.int .i64 p) (.int .i64 m) (.int .i64 l) 25
  go_upto_region 1 with fail
  replace hz := hz.below bA
  generalize w.alloc (Obj.cells #[.int .i64 p, .int .i64 m, .int .i64 l] 25) = w0 at *
  generalize hX : w.heap.size = X at *
  have HH : Held w0 [(X, 0, .int .i64 p), (X, 1, .int .i64 m), (X, 2, .int .i64 l)] := (((Held.nil w0).cons R0.lt R0.c2).cons R0.lt R0.c1).cons R0.lt R0.c0
  clear R0
  go_cut [10] (fun u W => W = w0 ∧ u = .bool B0)
  case first => as_aux_lemma =>
    have HB1 := HB0.out
    clear HB0 HG HE HK km HH
    by_cases h1 : 1 ≤ n
    · have h1' : (1 : Int) ≤ (n : Int) := by omega
      rw [decide_eq_true h1] at hB0
      by_cases h2 : n ≤ 6
      · have h2' : (n : Int) ≤ 6 := by omega
        rw [decide_eq_true h2] at hB0
        clear HB1
        cases hf : inB f (-1000000) 1000000 <;> cases hs : inB s 0 20000 <;> rw [hf] at kf <;> rw [hs] at ks <;> rw [hf, hs] at hB0
        all_goals
          subst hB0
          go_wp2_with (first | (go_at_call 23; (with_reducible refine (kf _).mono ?_); rintro e w' ⟨rfl, rfl⟩) | (go_at_call 24; (with_reducible refine (ks _).mono ?_); rintro e w' ⟨rfl, rfl⟩))
          go_meet
          exact ⟨rfl, rfl⟩
      · have h2' : ¬ (n : Int) ≤ 6 := by omega
        have h3 : B0 = false := by rw [hB0, decide_eq_false h2]; rfl
        clear hB0 HB1
        subst h3
        go_wp2_with (first | (go_at_call 23; (with_reducible refine (kf _).mono ?_); rintro e w' ⟨rfl, rfl⟩) | (go_at_call 24; (with_reducible refine (ks _).mono ?_); rintro e w' ⟨rfl, rfl⟩))
        go_meet
        exact ⟨rfl, rfl⟩
    · have h1' : ¬ (1 : Int) ≤ (n : Int) := by omega
      have h3 : B0 = false := by rw [hB0, decide_eq_false h1]; rfl
      clear hB0 HB1
      subst h3
      go_wp2_with (first | (go_at_call 23; (with_reducible refine (kf _).mono ?_); rintro e w' ⟨rfl, rfl⟩) | (go_at_call 24; (with_reducible refine (ks _).mono ?_); rintro e w' ⟨rfl, rfl⟩))
      go_meet
      exact ⟨rfl, rfl⟩
  case rest => as_aux_lemma =>
    obtain ⟨rfl, rfl⟩ := hcut
    clear hB0 kf ks
    go_wp2_with fail
    go_loop [10, 36] (fun x i => ∃ k : Nat, k ≤ n ∧ i = .int .i64 (k : Int) ∧ x = .bool (B0 && rises G 100 10000 k)) (fun _ i => n - (intOf i).toNat)
    case atStart => exact ⟨0, by omega, rfl, by rw [show rises G 100 10000 0 = true from rfl, Bool.and_true]⟩
    case round => as_aux_lemma =>
      obtain ⟨k, hk', rfl, rfl⟩ := hrel
      by_cases hlt : k < n
      · obtain ⟨b, o, ea, hb, hc⟩ := id hz (by omega)
        subst ea
        have ck := hc k hlt
        have k0 : (k : Int) < (n : Int) := by omega
        have ki := fun W => impl_within (G k) 100 10000 W
        have hs : (B0 && rises G 100 10000 (k + 1)) = ((B0 && rises G 100 10000 k) && (inB (G k) 100 10000 && (k == 0 || decide (G (k - 1) < G k)))) := by rw [rises_succ, Bool.and_assoc]
        have HS := Lib.hid hs
        clear hs HE HK HG HB0 km
        generalize (B0 && rises G 100 10000 k) = fv at *
        cases fv
        · clear hc
          generalize G k = gk at *
          go_wp2_with (go_at_call 25; (with_reducible refine (ki _).mono ?_); rintro e w' ⟨rfl, rfl⟩)
          go_round
          case rel => exact ⟨k + 1, by omega, by go_num, by rw [HS.out, Bool.false_and]⟩
          case measure => simp [intOf]; omega
        · cases hi : inB (G k) 100 10000
          · rw [hi] at ki HS
            clear hc
            generalize G k = gk at *
            go_wp2_with (go_at_call 25; (with_reducible refine (ki _).mono ?_); rintro e w' ⟨rfl, rfl⟩)
            go_round
            case rel => exact ⟨k + 1, by omega, by go_num, by rw [HS.out]; rfl⟩
            case measure => simp [intOf]; omega
          · rw [hi] at ki HS
            rcases k with _ | q
            · rw [Nat.add_zero] at ck
              clear hc
              generalize G 0 = gk at *
              go_wp2_with (go_at_call 25; (with_reducible refine (ki _).mono ?_); rintro e w' ⟨rfl, rfl⟩)
              go_round
              case rel => exact ⟨1, by omega, by go_num, by rw [HS.out]; rfl⟩
              case measure => simp [intOf]; omega
            · have cq := hc q (by omega)
              have hq1 : ((q + 1 : Nat) == 0) = false := rfl
              rw [hq1, Bool.false_or, show q + 1 - 1 = q from rfl] at HS
              clear hc
              by_cases hl2 : G q < G (q + 1)
              · rw [decide_eq_true hl2] at HS
                generalize G (q + 1) = gk at *
                generalize G q = gq at *
                go_wp2_with (go_at_call 25; (with_reducible refine (ki _).mono ?_); rintro e w' ⟨rfl, rfl⟩)
                go_round
                case rel => exact ⟨q + 1 + 1, by omega, by go_num, by rw [HS.out]; rfl⟩
                case measure => simp [intOf]; omega
              · rw [decide_eq_false hl2] at HS
                generalize G (q + 1) = gk at *
                generalize G q = gq at *
                have z0 : ((q : Int) + 1 == 0) = false := beq_eq_false_iff_ne.2 (by omega)
                have z1 : decide (gq < gk) = false := decide_eq_false hl2
                have z2 : ¬ (q : Int) + 1 = 0 := by omega
                go_wp2_with (go_at_call 25; (with_reducible refine (ki _).mono ?_); rintro e w' ⟨rfl, rfl⟩)
                all_goals
                  first
                    | (exfalso; omega)
                    | (go_round
                       case rel => exact ⟨q + 1 + 1, by omega, by go_num, by rw [HS.out]; first | rfl | simp [*]⟩
                       case measure => simp [intOf]; omega)
      · obtain rfl : k = n := by omega
        have hgo := HG.out
        have HR := Lib.hid (fun (h : rises G 100 10000 k = true) j (hj : j < k) => gear_bd h hj)
        have HO := Lib.hid (fun h : B0 = true => show k ≤ 6 ∧ (-1000000 ≤ f ∧ f ≤ 1000000) ∧ (0 ≤ s ∧ s ≤ 20000) by
          have := HB0.out
          rw [h] at this
          simp only [Bool.true_eq, Bool.and_eq_true, decide_eq_true_eq, inB_true] at this
          omega)
        have HA := Lib.hid (fun h : (B0 && rises G 100 10000 k) = true => (Bool.and_eq_true _ _).mp h)
        clear HB0
        have q0 : wc.cell? ⟨X, 0, none⟩ = some (.int .i64 p) := HH.get 0 _ rfl
        have q1 : wc.cell? ⟨X, 1, none⟩ = some (.int .i64 m) := HH.get 1 _ rfl
        have q2 : wc.cell? ⟨X, 2, none⟩ = some (.int .i64 l) := HH.get 2 _ rfl
        generalize (B0 && rises G 100 10000 k) = fv at *
        cases hmo : motorOk p m l
        · rw [hmo] at km
          have e1 := HE.out
          rw [hmo, if_neg (by decide)] at e1
          have e2 := HK.out
          rw [e1, if_neg (by decide)] at e2
          have HF := Lib.hid (And.intro e1 e2)
          clear e1 e2 HE HK HR HO HA HG hgo
          go_wp2_with fail
          refine (km _ _).mono ?_
          rintro e w1 ⟨rfl, hb1⟩
          clear q0 q1 q2
          go_wp2_with fail
          refine bodyPost_ret (by simp [results, Try.results6, go_sem, *]; try rfl) rfl ?_
          exact ⟨by rw [HF.out.1, HF.out.2], by rw [hX]; exact bA.trans (hb1.mono (by have := bA.size; omega))⟩
        · rw [hmo] at km
          cases fv
          · have e1 := HE.out
            rw [hmo, hgo, if_pos rfl, if_neg (by decide)] at e1
            have e2 := HK.out
            rw [e1, if_neg (by decide)] at e2
            have HF := Lib.hid (And.intro e1 e2)
            clear e1 e2 HE HK HR HO HA HG hgo
            go_wp2_with fail
            refine (km _ _).mono ?_
            rintro e w1 ⟨rfl, hb1⟩
            clear q0 q1 q2
            go_wp2_with fail
            refine bodyPost_ret (by simp [results, Try.results6, go_sem, *]; try rfl) rfl ?_
            exact ⟨by rw [HF.out.1, HF.out.2], by rw [hX]; exact bA.trans (hb1.mono (by have := bA.size; omega))⟩
          · have e1 := HE.out
            rw [hmo, hgo, if_pos rfl, if_pos rfl] at e1
            have HE2 := Lib.hid e1
            obtain ⟨hb0, hri⟩ := HA.out rfl
            obtain ⟨k6, ⟨f0, f1⟩, s0, s1⟩ := HO.out hb0
            have HRB := Lib.hid (HR.out hri)
            clear e1 HE HR HO HA HG hgo hb0 hri
            go_wp2_with fail
            refine (km _ _).mono ?_
            rintro e w1 ⟨rfl, hb1⟩
            clear q0 q1 q2 km
            replace hz := hz.below hb1
            replace HH := HH.below hb1
            have hB : Below w.heap.size w w1 := by rw [hX]; exact bA.trans (hb1.mono (by have := bA.size; omega))
            clear hb1 bA
            go_wp2_with fail
            go_loopw [68] (fun i wr => ∃ q : Nat, q ≤ k ∧ i = .int .i64 (q : Int) ∧ fst (fun j => gearC p m l f s (G j) == 0) q = q ∧ IntsAt wr a k G ∧ Held wr [(X, 0, .int .i64 p), (X, 1, .int .i64 m), (X, 2, .int .i64 l)] ∧ Below w.heap.size w wr) (fun i _ => k - (intOf i).toNat)
            case atStart => exact ⟨0, by omega, rfl, rfl, hz, HH, hB⟩
            case round => as_aux_lemma =>
              clear hz HH hB
              obtain ⟨q, hq', rfl, hr, hz, HH, hB⟩ := hrel
              by_cases hlt2 : q < k
              · obtain ⟨b, o, ea, lb, hc⟩ := id hz (by omega)
                subst ea
                have cq := hc q hlt2
                obtain ⟨g0, g1⟩ := HRB.out q hlt2
                have j0 : (q : Int) < (k : Int) := by omega
                have q0 : wr.cell? ⟨X, 0, none⟩ = some (.int .i64 p) := HH.get 0 _ rfl
                have q1 : wr.cell? ⟨X, 1, none⟩ = some (.int .i64 m) := HH.get 1 _ rfl
                have q2 : wr.cell? ⟨X, 2, none⟩ = some (.int .i64 l) := HH.get 2 _ rfl
                have lX : X < wr.heap.size := HH.lt 0 _ rfl
                have mb := mul_bd s0 s1 (show 0 ≤ G q by omega) g1
                have k1 := fun W => impl_nearest (1000 * f) (G q) W (by omega) (by omega) (by omega) (by omega)
                have k2 := fun W => impl_nearest (s * G q) 1000 W (by omega) (by omega) (by omega) (by omega)
                have k3 := fun W => impl_PowerNeeded p m l (nearV (1000 * f) (G q)) (nearV (s * G q) 1000) W
                have hgc : gearC p m l f s (G q) = needC p m l (nearV (1000 * f) (G q)) (nearV (s * G q) 1000) := rfl
                rw [← hgc] at k3
                clear hc hgc
                cases hqk : (gearC p m l f s (G q) == 0)
                · have H := Lib.hid (fst_miss (q := fun j => gearC p m l f s (G j) == 0) hr hqk)
                  clear hr
                  generalize gearC p m l f s (G q) = GC at *
                  generalize needN p m l (nearV (1000 * f) (G q)) (nearV (s * G q) 1000) = NN at *
                  generalize nearV (1000 * f) (G q) = N1 at *
                  generalize nearV (s * G q) 1000 = N2 at *
                  generalize G q = gq at *
                  go_wp2
                  (refine wp_region_cls (by kernel_rfl) (by kernel_rfl) ?_; (repeat (go_big_quiet_step ((first | (go_at_call 28; with_reducible exact cls_B (k1 _)) | (go_at_call 28; with_reducible exact cls_B (k2 _)) | (go_at_call 27; with_reducible exact cls_B (k3 _)))))); refine wpQuiet_nil ?_; rintro _ ⟨u, rfl⟩; have hb := u.below; replace hB := hB.trans (hb.mono hB.size); generalize u.w = w' at *; obtain ⟨hc, hf, hs⟩ := bkeep hb; have hq' := hb.size; have hq := hB.size; have hb' := hb; clear hb)
                  clear q0 q1 q2 cq lb lX hc hf hs hq' hq
                  replace hz := hz.below hb'
                  replace HH := HH.below hb'
                  clear hb' k1 k2 k3
                  go_wp2
                  go_roundw
                  case rel => exact ⟨q + 1, by omega, by go_num, H.out, hz, HH, hB⟩
                  case measure => simp [intOf]; omega
                · have hfin : gearF p m l f s G k = q := fst_hit (q := fun j => gearC p m l f s (G j) == 0) hr hqk hlt2
                  have e1 := HE2.out
                  rw [hfin, if_pos hlt2] at e1
                  have e2 := HK.out
                  rw [e1, if_pos rfl, hfin] at e2
                  have HF := Lib.hid (And.intro e1 e2)
                  clear hr hfin e1 e2 HE2 HK
                  generalize gearC p m l f s (G q) = GC at *
                  generalize needN p m l (nearV (1000 * f) (G q)) (nearV (s * G q) 1000) = NN at *
                  generalize nearV (1000 * f) (G q) = N1 at *
                  generalize nearV (s * G q) 1000 = N2 at *
                  generalize G q = gq at *
                  go_wp2
                  (refine wp_region_cls (by kernel_rfl) (by kernel_rfl) ?_; (repeat (go_big_quiet_step ((first | (go_at_call 28; with_reducible exact cls_B (k1 _)) | (go_at_call 28; with_reducible exact cls_B (k2 _)) | (go_at_call 27; with_reducible exact cls_B (k3 _)))))); refine wpQuiet_nil ?_; rintro _ ⟨u, rfl⟩; have hb := u.below; replace hB := hB.trans (hb.mono hB.size); generalize u.w = w' at *; obtain ⟨hc, hf, hs⟩ := bkeep hb; have hq' := hb.size; have hq := hB.size; have hb' := hb; clear hb)
                  clear q0 q1 q2 cq lb lX hc hf hs hq' hq hb' k1 k2 k3
                  go_wp2
                  refine bodyPost_ret (by simp [results, Try.results6, go_sem, *]; try rfl) rfl ?_
                  exact ⟨by rw [HF.out.1, HF.out.2], hB⟩
              · obtain rfl : q = k := by omega
                have hfin : gearF p m l f s G q = q := hr
                have e1 := HE2.out
                rw [hfin, if_neg (by omega)] at e1
                have e2 := HK.out
                rw [e1, if_neg (by decide)] at e2
                have HF := Lib.hid (And.intro e1 e2)
                clear hr hfin e1 e2 HE2 HK
                go_wp2
                refine bodyPost_ret (by simp [results, Try.results6, go_sem, *]; try rfl) rfl ?_
                exact ⟨by rw [HF.out.1, HF.out.2], hB⟩

end Go.Proofs.Ytejhngkbkcalaaa
