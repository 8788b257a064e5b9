/-
  Contracts: the nearest switch.
-/
import Derived.Test.YtdhjnpjemaofoaaDoorKI
import Derived.Test.YtdhjnpjemaofoaaDoorKE
import Derived.Test.YtdhjnpjemaofoaaDoorM1
namespace Go.Proofs.YtdhjnpjemaofoaaDoor
open Go.RowKit
set_option linter.unusedVariables false
set_option linter.unusedSimpArgs false


theorem switch_1 {Z : Nat → Int} {n : Nat} {p : Int} (h : (rises Z 0 4000000 n && decide (n ≤ 16)) = false) : switchCode Z n p = 1 ∧ switchV Z n p = 0 := by
  have e : switchCode Z n p = 1 := by unfold switchCode; rw [h, if_neg (by decide)]
  exact ⟨e, by unfold switchV; rw [e, if_neg (by decide)]⟩
theorem switch_2 {Z : Nat → Int} {n : Nat} {p : Int} (h : (rises Z 0 4000000 n && decide (n ≤ 16)) = true) (h' : inB p 0 4000000 = false) : switchCode Z n p = 2 ∧ switchV Z n p = 0 := by
  have e : switchCode Z n p = 2 := by unfold switchCode; rw [h, if_pos rfl, h', if_neg (by decide)]
  exact ⟨e, by unfold switchV; rw [e, if_neg (by decide)]⟩
theorem switch_3 {Z : Nat → Int} {n : Nat} {p : Int} (h : (rises Z 0 4000000 n && decide (n ≤ 16)) = true) (h' : inB p 0 4000000 = true) (h0 : n = 0) : switchCode Z n p = 3 ∧ switchV Z n p = 0 := by
  have e : switchCode Z n p = 3 := by unfold switchCode; rw [h, if_pos rfl, h', if_pos rfl, if_pos h0]
  exact ⟨e, by unfold switchV; rw [e, if_neg (by decide)]⟩
theorem switch_0 {Z : Nat → Int} {n : Nat} {p : Int} (h : (rises Z 0 4000000 n && decide (n ≤ 16)) = true) (h' : inB p 0 4000000 = true) (h0 : n ≠ 0) : switchCode Z n p = 0 ∧ switchV Z n p = nearIx Z p n := by
  have e : switchCode Z n p = 0 := by unfold switchCode; rw [h, if_pos rfl, h', if_pos rfl, if_neg h0]
  exact ⟨e, by unfold switchV; rw [e, if_pos rfl]⟩
set_option maxHeartbeats 1000000 in
theorem impl_NearestSwitch (a : Option Addr) (n c : Nat) (Z : Nat → Int) (p : Int) (w : World) (hz : IntsAt w a n Z) (hn : n ≤ 1048576) :
    Calls Tryd.prog 26 #[.slice a n c, .int .i64 p] w fun e w' => e = .returned (.tuple #[.int .i64 (switchV Z n p), .int .i64 (switchCode Z n p)]) ∧ Below w.heap.size w w' := by
  have kv := fun W h => impl_ValidPlaces a n c Z W h hn
  have kp := fun W => impl_isSpot p W
  have ka := fun x W h h' => (impl_abs x W h h').mono (fun e w' (h : e = .returned (.int .i64 (if x < 0 then -x else x)) ∧ w' = W) => (⟨h.1, h.2.symm⟩ : e = .returned (.int .i64 (if x < 0 then -x else x)) ∧ W = w'))
  cases h1 : (rises Z 0 4000000 n && decide (n ≤ 16))
  · obtain ⟨e1, e2⟩ := switch_1 (p := p) h1
    rw [e1, e2]
    rw [h1] at kv
    clear e1 e2 ka
    go_enter Tryd.func26, Tryd.ntmps26
    go_wp2_with (first | (go_at_call 53; (with_reducible refine (kv _ hz).mono ?_); rintro e w' ⟨rfl, rfl⟩) | (go_at_call 56; (with_reducible refine (kp _).mono ?_); rintro e w' ⟨rfl, rfl⟩))
    go_returns
    exact ⟨rfl, by go_grown⟩
  · rw [h1] at kv
    cases h2 : inB p 0 4000000
    · obtain ⟨e1, e2⟩ := switch_2 h1 h2
      rw [e1, e2]
      rw [h2] at kp
      clear e1 e2 ka
      go_enter Tryd.func26, Tryd.ntmps26
      go_wp2_with (first | (go_at_call 53; (with_reducible refine (kv _ hz).mono ?_); rintro e w' ⟨rfl, rfl⟩) | (go_at_call 56; (with_reducible refine (kp _).mono ?_); rintro e w' ⟨rfl, rfl⟩))
      go_returns
      exact ⟨rfl, by go_grown⟩
    · rw [h2] at kp
      by_cases h0 : n = 0
      · obtain ⟨e1, e2⟩ := switch_3 h1 h2 h0
        rw [e1, e2]
        subst h0
        clear e1 e2 ka
        go_enter Tryd.func26, Tryd.ntmps26
        go_wp2_with (first | (go_at_call 53; (with_reducible refine (kv _ hz).mono ?_); rintro e w' ⟨rfl, rfl⟩) | (go_at_call 56; (with_reducible refine (kp _).mono ?_); rintro e w' ⟨rfl, rfl⟩))
        go_returns
        exact ⟨rfl, by go_grown⟩
      · obtain ⟨e1, e2⟩ := switch_0 h1 h2 h0
        rw [e1, e2]
        clear e1 e2
        rw [Bool.and_eq_true, decide_eq_true_eq] at h1
        obtain ⟨hr, h16⟩ := h1
        obtain ⟨p0, p1⟩ := inB_true.1 h2
        have hbd := fun j h => rises_bd (j := j) hr h
        have HB := Lib.hid hbd
        have h0' : ((n : Int) == 0) = false := beq_eq_false_iff_ne.2 (by omega)
        clear hr hbd h2
        go_enter Tryd.func26, Tryd.ntmps26
        go_wp2_with (first | (go_at_call 53; (with_reducible refine (kv _ hz).mono ?_); rintro e w' ⟨rfl, rfl⟩) | (go_at_call 56; (with_reducible refine (kp _).mono ?_); rintro e w' ⟨rfl, rfl⟩))
        go_loopw [6, 23] (fun x i wr => ∃ k : Nat, k ≤ n ∧ i = .int .i64 k ∧ x = .int .i64 (nearIx Z p k) ∧ Below w.heap.size w wr) (fun _ i _ => n - (intOf i).toNat)
        case atStart => exact ⟨0, by omega, rfl, rfl, Below.refl _ _⟩
        case round =>
          obtain ⟨k, hk, rfl, rfl, hB⟩ := hrel
          by_cases hlt : k < n
          · obtain ⟨b, o, rfl, hb, hc⟩ := hz (by omega)
            have hlt2 : nearIx Z p k < n := by
              rcases Nat.eq_zero_or_pos k with rfl | h
              · exact Nat.pos_of_ne_zero h0
              · have := nearIx_lt Z p k h; omega
            have ck := (hB.cell (p := ⟨b, o + k, none⟩) hb).trans (hc k hlt)
            have cx := (hB.cell (p := ⟨b, o + nearIx Z p k, none⟩) hb).trans (hc _ hlt2)
            have hb' : b < wr.heap.size := Nat.lt_of_lt_of_le hb hB.size
            have hq := hB.size
            have i0 : (0 : Int) ≤ (nearIx Z p k : Int) := by omega
            have i1 : (nearIx Z p k : Int) < (n : Int) := by omega
            obtain ⟨z0, z1⟩ := HB.out k hlt
            obtain ⟨y0, y1⟩ := HB.out _ hlt2
            have hyes := Lib.hid (@nearIx_yes Z p k)
            have hno := Lib.hid (@nearIx_no Z p k)
            have kA : ∀ x W, -9000000000000000000 ≤ x → x ≤ 9000000000000000000 → Calls Tryd.prog 57 #[.int .i64 x] W fun e w' => e = .returned (.int .i64 (absV x)) ∧ W = w' := ka
            clear hc
            generalize nearIx Z p k = x at *
            by_cases hl : absV (Z k - p) < absV (Z x - p)
            · have H := Lib.hid (hyes.out hl)
              clear hyes hno
              go_wp2
              (refine wp_region_cls (by kernel_rfl) (by kernel_rfl) ?_; (repeat (go_big_quiet_step ((go_at_call 57; exact cls_S (kA _ _ (by omega) (by omega)))))); refine wpQuiet_nil ?_; rintro _ ⟨u, rfl⟩; have hb := u.below; have hB := hB.trans (hb.mono hB.size); generalize u.w = w' at *; obtain ⟨hc, hf, hs⟩ := bkeep hb)
              go_wp2
              go_roundw
              case rel => exact ⟨k + 1, by omega, by go_num, by rw [H.out], hB⟩
              case measure => simp [intOf]; omega
            · have H := Lib.hid (hno.out hl)
              clear hyes hno
              go_wp2
              (refine wp_region_cls (by kernel_rfl) (by kernel_rfl) ?_; (repeat (go_big_quiet_step ((go_at_call 57; exact cls_S (kA _ _ (by omega) (by omega)))))); refine wpQuiet_nil ?_; rintro _ ⟨u, rfl⟩; have hb := u.below; have hB := hB.trans (hb.mono hB.size); generalize u.w = w' at *; obtain ⟨hc, hf, hs⟩ := bkeep hb)
              go_wp2
              go_roundw
              case rel => exact ⟨k + 1, by omega, by go_num, by rw [H.out], hB⟩
              case measure => simp [intOf]; omega
          · obtain rfl : k = n := by omega
            go_wp2
            refine bodyPost_ret (by simp [results, Tryd.results26, go_sem, *]; try rfl) rfl ?_
            exact ⟨rfl, hB⟩

end Go.Proofs.YtdhjnpjemaofoaaDoor
