/-
  Contracts: votes.
-/
import Derived.Test.YtjckgheidmfpnaaKQ
import Derived.Test.YtjckgheidmfpnaaKP
import Derived.Test.YtjckgheidmfpnaaAq
import Derived.Test.YtjckgheidmfpnaaPw
namespace Go.Proofs.Ytjckgheidmfpnaa
open Go.RowKit
set_option linter.unusedVariables false
set_option linter.unusedSimpArgs false


set_option maxHeartbeats 2000000 in
theorem impl_agreeing (a : Option Addr) (n c : Nat) (Z : Nat → Int) (p : Int) (w : World) (hz : IntsAt w a n Z) (hn : n ≤ 32) (hbd : ∀ j, j < n → -1000000000 ≤ Z j ∧ Z j ≤ 1000000000) :
    Calls Try.prog 21 #[.slice a n c, .int .i64 p] w (RetRow (agreeL Z p n) w) := by
  have HB := Lib.hid hbd
  clear hbd
  go_enter Try.func21, Try.ntmps21
  go_wp2
  go_loopw [5, 13] (fun o i wr => ∃ k : Nat, k ≤ n ∧ i = .int .i64 k ∧ NumOf w.heap.size wr o ((List.range k).map fun i => (cntN Z p n i : Int)) ∧ Below w.heap.size w wr) (fun _ i _ => n - (intOf i).toNat)
  case atStart => exact ⟨0, by omega, rfl, NumOf.nil _ _, Below.refl _ _⟩
  case round =>
    obtain ⟨k, hk, rfl, hA, hB⟩ := hrel
    have hq := hB.size
    have hlen : ((List.range k).map fun i => (cntN Z p n i : Int)).length ≤ 16777216 := by simp; omega
    by_cases hlt : k < n
    · obtain ⟨b, o, rfl, hb, hc⟩ := hz (by omega)
      have hb1 : b < wr.heap.size := Nat.lt_of_lt_of_le hb hB.size
      have ck := (hB.cell (p := ⟨b, o + k, none⟩) hb).trans (hc k hlt)
      have HC := Lib.hid (fun j hj => (hB.cell (p := ⟨b, o + j, none⟩) hb).trans (hc j hj))
      have HS := Lib.hid (range_snoc (fun i => (cntN Z p n i : Int)) k)
      have HN := Lib.hid (show cntN Z p n k = cnt Z p (Z k) n from rfl)
      obtain ⟨x0, x1⟩ := HB.out k hlt
      clear hc
      generalize ((List.range k).map fun i => (cntN Z p n i : Int)) = L at *
      generalize hx : Z k = x at *
      have HX := Lib.hid hx
      clear hx
      go_wp2
      go_loop [8, 19] (fun m i => ∃ l : Nat, l ≤ n ∧ i = .int .i64 l ∧ m = .int .i64 (cnt Z p x l : Int)) (fun _ i => n - (intOf i).toNat)
      case atStart => exact ⟨0, by omega, rfl, rfl⟩
      case round =>
        obtain ⟨l, hl, rfl, rfl⟩ := hrel
        have cl := cnt_le Z p x l
        by_cases hlt2 : l < n
        · have c2 := HC.out l hlt2
          obtain ⟨y0, y1⟩ := HB.out l hlt2
          have ka := fun W => (impl_abs (x - Z l) W (by omega) (by omega)).mono (fun e w' (h : e = .returned (.int .i64 (if x - Z l < 0 then -(x - Z l) else x - Z l)) ∧ w' = W) => (⟨h.1, h.2.symm⟩ : e = .returned (.int .i64 (absV (x - Z l))) ∧ W = w'))
          have hag : agr p x (Z l) = decide (absV (x - Z l) ≤ p) := rfl
          cases hg : agr p x (Z l)
          · have HE := Lib.hid (cnt_no (k := l) hg)
            rw [hg] at hag
            replace hag := hag.symm
            clear hg
            generalize cnt Z p x l = M at *
            generalize absV (x - Z l) = V at *
            generalize Z l = y at *
            go_wp2_with (go_at_call 34; (with_reducible refine (ka _).mono ?_); rintro e w' ⟨rfl, rfl⟩)
            go_round
            case rel => exact ⟨l + 1, by omega, by go_num, by rw [HE.out]⟩
            case measure => simp [intOf]; omega
          · have HE := Lib.hid (cnt_yes (k := l) hg)
            rw [hg] at hag
            replace hag := hag.symm
            clear hg
            generalize cnt Z p x l = M at *
            generalize absV (x - Z l) = V at *
            generalize Z l = y at *
            go_wp2_with (go_at_call 34; (with_reducible refine (ka _).mono ?_); rintro e w' ⟨rfl, rfl⟩)
            go_round
            case rel => exact ⟨l + 1, by omega, by go_num, by rw [HE.out]; go_num⟩
            case measure => simp [intOf]; omega
        · obtain rfl : l = n := by omega
          rw [← HN.out] at *
          generalize cntN Z p l k = M at *
          go_wp2_with (at_builtin; refine app_num _ rfl _ _ rfl w.heap.size _ _ rfl (hA.alloc _) wr.heap.size 1 (M : Int) rfl (by go_cell) hlen (by simp; omega) ?_; intro v' w1 hA' hw1)
          go_roundw
          case rel => exact ⟨k + 1, by omega, by go_num, by rw [HS.out]; exact hA', (Below.alloc hB hq _).trans hw1⟩
          case measure => simp [intOf]; omega
    · obtain rfl : k = n := by omega
      go_wp2
      go_returns
      exact hA.row hB

theorem slices_Max_int (a : Option Addr) (n c : Nat) (C : Nat → Int) (w : World) (hz : IntsAt w a n C) (h1 : 0 < n) (hn : n ≤ 1048576) :
    Calls Try.prog 22 #[.slice a n c] w fun e w' => e = .returned (.int .i64 (mx C n)) ∧ w = w' := by
  have hn1 : ¬ (n : Int) < 1 := by omega
  have hn0 : (0 : Int) < (n : Int) := by omega
  obtain ⟨b, o, rfl, hb, hc⟩ := hz h1
  have c0 := hc 0 h1
  rw [Nat.add_zero] at c0
  have HC := Lib.hid hc
  have HM := Lib.hid (mx_one C)
  clear hc
  go_enter Try.func22, Try.ntmps22
  go_wp2
  go_loop [3, 4] (fun m i => ∃ k : Nat, k + 1 ≤ n ∧ i = .int .i64 ((k : Int) + 1) ∧ m = .int .i64 (mx C (k + 1))) (fun _ i => n - (intOf i).toNat)
  case atStart => exact ⟨0, by omega, rfl, by rw [HM.out]⟩
  case round =>
    clear c0
    obtain ⟨k, hk, rfl, rfl⟩ := hrel
    by_cases hlt : k + 1 < n
    · have ck := HC.out (k + 1) hlt
      have HN := Lib.hid (show mx C (k + 1 + 1) = max (mx C (k + 1)) (C (k + 1)) from rfl)
      have i0 : (0 : Int) ≤ (k : Int) := by omega
      have i1 : (k : Int) + 1 < (n : Int) := by omega
      have i5 : ((k : Int) + 1).toNat = k + 1 := by omega
      generalize mx C (k + 1) = M at *
      generalize C (k + 1) = y at *
      by_cases hlt2 : M < y
      · go_wp2
        go_round
        case rel => exact ⟨k + 1, by omega, by go_num, by rw [HN.out]; congr 1; omega⟩
        case measure => simp [intOf]; omega
      · go_wp2
        go_round
        case rel => exact ⟨k + 1, by omega, by go_num, by rw [HN.out]; congr 1; omega⟩
        case measure => simp [intOf]; omega
    · obtain rfl : n = k + 1 := by omega
      go_wp2
      go_returns
      exact ⟨rfl, rfl⟩

theorem slices_Min_int (a : Option Addr) (n c : Nat) (C : Nat → Int) (w : World) (hz : IntsAt w a n C) (h1 : 0 < n) (hn : n ≤ 1048576) :
    Calls Try.prog 27 #[.slice a n c] w fun e w' => e = .returned (.int .i64 (mn C n)) ∧ w = w' := by
  have hn1 : ¬ (n : Int) < 1 := by omega
  have hn0 : (0 : Int) < (n : Int) := by omega
  obtain ⟨b, o, rfl, hb, hc⟩ := hz h1
  have c0 := hc 0 h1
  rw [Nat.add_zero] at c0
  have HC := Lib.hid hc
  have HM := Lib.hid (mn_one C)
  clear hc
  go_enter Try.func27, Try.ntmps27
  go_wp2
  go_loop [3, 4] (fun m i => ∃ k : Nat, k + 1 ≤ n ∧ i = .int .i64 ((k : Int) + 1) ∧ m = .int .i64 (mn C (k + 1))) (fun _ i => n - (intOf i).toNat)
  case atStart => exact ⟨0, by omega, rfl, by rw [HM.out]⟩
  case round =>
    clear c0
    obtain ⟨k, hk, rfl, rfl⟩ := hrel
    by_cases hlt : k + 1 < n
    · have ck := HC.out (k + 1) hlt
      have HN := Lib.hid (show mn C (k + 1 + 1) = min (mn C (k + 1)) (C (k + 1)) from rfl)
      have i0 : (0 : Int) ≤ (k : Int) := by omega
      have i1 : (k : Int) + 1 < (n : Int) := by omega
      have i5 : ((k : Int) + 1).toNat = k + 1 := by omega
      generalize mn C (k + 1) = M at *
      generalize C (k + 1) = y at *
      by_cases hlt2 : y < M
      · go_wp2
        go_round
        case rel => exact ⟨k + 1, by omega, by go_num, by rw [HN.out]; congr 1; omega⟩
        case measure => simp [intOf]; omega
      · go_wp2
        go_round
        case rel => exact ⟨k + 1, by omega, by go_num, by rw [HN.out]; congr 1; omega⟩
        case measure => simp [intOf]; omega
    · obtain rfl : n = k + 1 := by omega
      go_wp2
      go_returns
      exact ⟨rfl, rfl⟩

theorem slices_Index_int (a : Option Addr) (n c : Nat) (C : Nat → Int) (x : Int) (w : World) (hz : IntsAt w a n C) (hn : n ≤ 1048576) :
    Calls Try.prog 23 #[.slice a n c, .int .i64 x] w fun e w' => e = .returned (.int .i64 (idx (fun j => C j == x) n)) ∧ w = w' := by
  have hi := hz
  go_enter Try.func23, Try.ntmps23
  go_wp2
  go_loop [8] (fun i => ∃ k : Nat, k ≤ n ∧ i = .int .i64 k ∧ fst (fun j => C j == x) k = k) (fun i => n - (intOf i).toNat)
  case atStart => exact ⟨0, by omega, rfl, rfl⟩
  case round =>
    obtain ⟨k, hk, rfl, hr⟩ := hrel
    by_cases hlt : k < n
    · obtain ⟨b, o, rfl, hb, hc⟩ := hi (by omega)
      have ck := hc k hlt
      clear hc
      cases he : (x == C k)
      · have HN := Lib.hid (fst_miss hr (show (C k == x) = false by rw [beq_swap]; exact he))
        clear hr
        go_wp2
        go_round
        case rel => exact ⟨k + 1, by omega, by go_num, HN.out⟩
        case measure => simp [intOf]; omega
      · have hfin : idx (fun j => C j == x) n = k := by
          unfold idx; rw [fst_hit hr (show (C k == x) = true by rw [beq_swap]; exact he) hlt, if_pos hlt]
        have H := Lib.hid hfin
        clear hr hfin
        go_wp2
        go_ret
        exact ⟨by rw [H.out]; rfl, rfl⟩
    · obtain rfl : k = n := by omega
      have hfin : idx (fun j => C j == x) k = -1 := by unfold idx; rw [hr, if_neg (by omega)]
      have H := Lib.hid hfin
      clear hr hfin
      go_wp2
      go_ret
      exact ⟨by rw [H.out]; rfl, rfl⟩

set_option maxHeartbeats 2000000 in
theorem impl_VoteOf (a : Option Addr) (n c : Nat) (Z : Nat → Int) (p : Int) (w : World) (hz : IntsAt w a n Z) (hn : n ≤ 1048576) :
    Calls Try.prog 6 #[.slice a n c, .int .i64 p] w fun e w' => e = .returned (.tuple #[.int .i64 (voteV Z n p), .int .i64 (voteC Z n p)]) ∧ Below w.heap.size w w' := by
  have k1 := fun W h => impl_areReadings a n c 3 Z W h hn
  rw [show decide ((3 : Int) ≤ n) = decide (3 ≤ n) by by_cases h : 3 ≤ n <;> simp [h] <;> omega] at k1
  have k2 := fun W => impl_within p 0 1000000 W
  cases h : voteOk Z n p
  · obtain ⟨e1, e2⟩ := vote_2 h
    rw [e1, e2]
    unfold voteOk at h
    clear e1 e2
    cases h1 : (decide (3 ≤ n) && readV Z n)
    · rw [h1] at k1
      clear h h1
      go_enter Try.func6, Try.ntmps6
      go_wp2_with (first | (go_at_call 19; (with_reducible refine (k1 _ hz).mono ?_); rintro e w' ⟨rfl, rfl⟩) | (go_at_call 20; (with_reducible refine (k2 _).mono ?_); rintro e w' ⟨rfl, rfl⟩))
      go_returns
      exact ⟨rfl, by go_grown⟩
    · rw [h1, Bool.true_and] at h
      rw [h1] at k1
      rw [h] at k2
      clear h h1
      go_enter Try.func6, Try.ntmps6
      go_wp2_with (first | (go_at_call 19; (with_reducible refine (k1 _ hz).mono ?_); rintro e w' ⟨rfl, rfl⟩) | (go_at_call 20; (with_reducible refine (k2 _).mono ?_); rintro e w' ⟨rfl, rfl⟩))
      go_returns
      exact ⟨rfl, by go_grown⟩
  · have h0 := h
    unfold voteOk at h
    rw [Bool.and_eq_true] at h
    obtain ⟨h1, h2⟩ := h
    rw [h1] at k1
    rw [h2] at k2
    rw [Bool.and_eq_true, decide_eq_true_eq] at h1
    have h32 := readV_le h1.2
    have h3 := h1.1
    have kA := fun W h => impl_agreeing a n c Z p W h h32 (fun j hj => readV_bd h1.2 hj)
    obtain ⟨m0, m1⟩ := voteM_bd (Z := Z) (p := p) (show 0 < n by omega)
    have hI := voteI_lt (Z := Z) (p := p) (show 0 < n by omega)
    have HX := Lib.hid (voteI_idx (Z := Z) (p := p) (show 0 < n by omega))
    have HMX := Lib.hid (show mx (fun i => (cntN Z p n i : Int)) n = voteM Z n p from rfl)
    have HL := Lib.hid (agreeL_len Z p n)
    have HG := Lib.hid (fun j h => agreeL_at (Z := Z) (p := p) (n := n) (j := j) h)
    have Hv3 := Lib.hid (fun h => vote_3 (Z := Z) (n := n) (p := p) h0 h)
    have Hv0 := Lib.hid (fun h => vote_0 (Z := Z) (n := n) (p := p) h0 h)
    clear h1 h2 h0
    generalize agreeL Z p n = L at *
    go_enter Try.func6, Try.ntmps6
    go_wp2_with (first | (go_at_call 19; (with_reducible refine (k1 _ hz).mono ?_); rintro e w' ⟨rfl, rfl⟩) | (go_at_call 20; (with_reducible refine (k2 _).mono ?_); rintro e w' ⟨rfl, rfl⟩) | fail)
    refine (kA _ hz).mono ?_
    rintro e w1 ⟨a1, c1, rfl, ho, hB⟩
    have hi := ho.ints
    have hLn : L.length = n := HL.out
    rw [hLn] at hi ⊢
    clear hLn
    have hC : IntsAt w1 a1 n (fun i => (cntN Z p n i : Int)) := hi.cong (fun j hj => HG.out j hj)
    clear hi ho kA k1 k2
    have kM := fun W h => slices_Max_int a1 n c1 (fun i => (cntN Z p n i : Int)) W h (by omega) hn
    have kI := fun W h => slices_Index_int a1 n c1 (fun i => (cntN Z p n i : Int)) (voteM Z n p) W h hn
    rw [HMX.out] at kM
    rw [HX.out] at kI
    have hz1 := hz.below hB
    obtain ⟨b, o, rfl, hb, hcz⟩ := hz1 (by omega)
    have cI := hcz (voteI Z n p) hI
    have i0 : (0 : Int) ≤ (voteI Z n p : Int) := by omega
    have i1 : (voteI Z n p : Int) < (n : Int) := by omega
    clear hcz
    by_cases hm : 2 * voteM Z n p ≤ n
    · obtain ⟨e1, e2⟩ := Hv3.out (by omega)
      have E1 := Lib.hid e1
      have E2 := Lib.hid e2
      clear e1 e2
      generalize voteM Z n p = M at *
      generalize voteI Z n p = I at *
      generalize (fun i => (cntN Z p n i : Int)) = C at *
      go_wp2_with (first | (go_at_call 22; (with_reducible refine (kM _ hC).mono ?_); rintro e w' ⟨rfl, rfl⟩) | (go_at_call 23; (with_reducible refine (kI _ hC).mono ?_); rintro e w' ⟨rfl, rfl⟩))
      go_returns
      exact ⟨by rw [E1.out, E2.out]; rfl, hB⟩
    · obtain ⟨e1, e2⟩ := Hv0.out (by omega)
      have E1 := Lib.hid e1
      have E2 := Lib.hid e2
      clear e1 e2
      generalize voteM Z n p = M at *
      generalize voteI Z n p = I at *
      generalize (fun i => (cntN Z p n i : Int)) = C at *
      go_wp2_with (first | (go_at_call 22; (with_reducible refine (kM _ hC).mono ?_); rintro e w' ⟨rfl, rfl⟩) | (go_at_call 23; (with_reducible refine (kI _ hC).mono ?_); rintro e w' ⟨rfl, rfl⟩))
      go_returns
      exact ⟨by rw [E1.out, E2.out]; rfl, hB⟩

end Go.Proofs.Ytjckgheidmfpnaa
