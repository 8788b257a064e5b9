/-
  Walk of the law FnVotes.
-/
import Derived.Test.YtjckgheidmfpnaaDl
import Derived.Test.YtjckgheidmfpnaaDb
import Derived.Test.YtjckgheidmfpnaaPvo
import Derived.Test.YtjckgheidmfpnaaKD2
import Derived.Test.YtjckgheidmfpnaaOd
import Derived.Test.YtjckgheidmfpnaaKG
import Derived.Test.YtjckgheidmfpnaaKQ
namespace Go.Proofs.Ytjckgheidmfpnaa
open Go.RowKit
set_option linter.unusedVariables false
set_option linter.unusedSimpArgs false

theorem vote_all (Z : Nat → Int) (n : Nat) (p : Int) : (voteC Z n p ≠ 0 ∧ voteC Z n p ≠ 3) ∨ (3 ≤ n ∧ n ≤ 32 ∧ 0 ≤ p ∧ p ≤ 1000000 ∧ (∀ j, j < n → -1000000000 ≤ Z j ∧ Z j ≤ 1000000000) ∧ ((voteC Z n p = 3 ∧ 2 * voteM Z n p ≤ n) ∨ (voteC Z n p = 0 ∧ (n : Int) < 2 * voteM Z n p ∧ voteV Z n p = Z (voteI Z n p)))) := by
  cases h : voteOk Z n p
  · rw [(vote_2 h).1]; exact Or.inl ⟨by decide, by decide⟩
  · obtain ⟨h1, h2, h3, h4, h5⟩ := vote_parts h
    refine Or.inr ⟨h1, h2, h3, h4, h5, ?_⟩
    by_cases h6 : 2 * voteM Z n p ≤ n
    · exact Or.inl ⟨(vote_3 h h6).1, h6⟩
    · exact Or.inr ⟨(vote_0 h h6).1, by omega, (vote_0 h h6).2⟩
theorem odd_all (Z : Nat → Int) (n : Nat) (p : Int) : oddC Z n p ≠ 0 ∨ (oddC Z n p = 0 ∧ 3 ≤ n ∧ n ≤ 32 ∧ 0 ≤ p ∧ p ≤ 1000000 ∧ ∃ x : Nat, x < n ∧ oddV Z n p = x ∧ (∀ j, j < n → -1000000000 ≤ Z j ∧ Z j ≤ 1000000000) ∧ ∀ i k, k < i → i < n → agr p (Z i) (Z k) = !(decide ((i : Int) = (x : Int)) || decide ((k : Int) = (x : Int)))) := by
  cases h : voteOk Z n p
  · rw [(odd_2 h).1]; exact Or.inl (by decide)
  · obtain ⟨h1, h2, h3, h4, h5⟩ := vote_parts h
    by_cases h6 : oddF Z n p < n
    · obtain ⟨e1, e2⟩ := odd_0 h rfl h6
      exact Or.inr ⟨e1, h1, h2, h3, h4, oddF Z n p, h6, e2, h5, fun i k h7 h8 => odd_pair h6 h7 h8⟩
    · have hle : oddF Z n p ≤ n := fst_le _ _
      rw [(odd_3 h (by omega)).1]; exact Or.inl (by decide)
theorem settled_all (Z : Nat → Int) (t : Int) (n : Nat) : settledCode Z t n ≠ 0 ∨ (n ≤ 32 ∧ (settledL Z t n).length = n ∧ ∀ j, j < n → (settledL Z t n).getD j 0 = lastZ Z t (j + 1)) := by
  cases h : settledOk Z t n
  · rw [(settled_no h).2]; exact Or.inl (by decide)
  · have h2 : readV Z n = true := by
      unfold settledOk at h
      exact (Bool.and_eq_true _ _ ▸ h).1
    rw [(settled_yes h).1]
    exact Or.inr ⟨readV_le h2, by simp, fun j hj => by simp [List.getD_eq_getElem?_getD, hj]⟩
theorem off_all (Z Y : Nat → Int) (n m : Nat) : (offCode Z Y n m ≠ 0 ∧ offV Z Y n m = 0) ∨ (offCode Z Y n m = 0 ∧ 1 ≤ m ∧ m ≤ 32 ∧ n = m ∧ (∀ j, j < m → -1000000000 ≤ Z j ∧ Z j ≤ 1000000000) ∧ (∀ j, j < m → -1000000000 ≤ Y j ∧ Y j ≤ 1000000000) ∧ offCode Y Z m n = 0 ∧ (-100000000000 ≤ offV Z Y n m ∧ offV Z Y n m ≤ 100000000000) ∧ offV Y Z m n = -offV Z Y n m ∧ (-100000000000 ≤ offV Z Y n m * (m : Int) ∧ offV Z Y n m * (m : Int) ≤ 100000000000) ∧ absV (offV Z Y n m * (m : Int) - sumN Y m + sumN Z m) * 2 ≤ m) := by
  by_cases h : offCode Z Y n m = 0
  · obtain ⟨h1, h2, rfl, h3, h4, h5, h6, h7⟩ := off_parts h
    refine Or.inr ⟨h, h1, h2, rfl, h3, h4, h5, ?_, by rw [h7, h6], ?_, by rw [h6]; exact off_err h1⟩
    all_goals
      rw [h6]
      have hne := near_err (a := sumN Y m - sumN Z m) (b := m) (by omega)
      have hz := sumN_bd h3 m (Nat.le_refl _)
      have hy := sumN_bd h4 m (Nat.le_refl _)
      generalize sumN Y m = SY at *
      generalize sumN Z m = SZ at *
      generalize nearV (SY - SZ) m = N at *
    · have hm1 : (1 : Int) ≤ (m : Int) := by omega
      rcases Int.le_total 0 N with h0 | h0
      · have := Int.mul_le_mul_of_nonneg_left hm1 h0
        rw [Int.mul_one] at this
        generalize N * (m : Int) = P at *
        omega
      · have := Int.mul_le_mul_of_nonneg_left hm1 (show 0 ≤ -N by omega)
        rw [Int.mul_one, Int.neg_mul] at this
        generalize N * (m : Int) = P at *
        omega
    · generalize N * (m : Int) = P at *
      omega
  · exact Or.inl ⟨h, off_zero h⟩

theorem laws_b10Sum (a : Option Addr) (n c : Nat) (Z : Nat → Int) (w : World) (hz : IntsAt w a n Z) (hn : n ≤ 1000) (hbd : ∀ j, j < n → -1000000000 ≤ Z j ∧ Z j ≤ 1000000000) :
    Calls Try.prog 15 #[.slice a n c] w fun e w' => e = .returned (.int .i64 (sumN Z n)) ∧ w = w' := by
  have HB := Lib.hid hbd
  clear hbd
  go_enter Try.func15, Try.ntmps15
  go_wp2
  go_loop [3, 4] (fun q i => ∃ k : Nat, k ≤ n ∧ i = .int .i64 k ∧ q = .int .i64 (sumN Z k)) (fun _ i => n - (intOf i).toNat)
  case atStart => exact ⟨0, by omega, rfl, rfl⟩
  case round =>
    obtain ⟨k, hk, rfl, rfl⟩ := hrel
    by_cases hlt : k < n
    · obtain ⟨b, o, rfl, hb, hc⟩ := hz (by omega)
      have ck := hc k hlt
      have zk := HB.out k hlt
      have sk := sumN_bd HB.out k (by omega)
      have es : sumN Z (k + 1) = sumN Z k + Z k := rfl
      have H := Lib.hid es
      clear hc es
      generalize sumN Z k = S at *
      go_wp2
      go_round
      case rel => exact ⟨k + 1, by omega, by go_num, by rw [H.out]⟩
      case measure => simp [intOf]; omega
    · obtain rfl : k = n := by omega
      go_wp2
      go_ret
      exact ⟨rfl, rfl⟩

set_option maxHeartbeats 16000000 in
set_option maxRecDepth 100000 in
theorem law_FnVotes (a0 : Option Addr) (n0 c0 : Nat) (a1 : Option Addr) (n1 c1 : Nat) (w : World) (hz0 : BytesAt w a0 n0) (hz1 : BytesAt w a1 n1) :
    Calls Try.prog 3 #[.slice a0 n0 c0, .slice a1 n1 c1] w fun e w' => e = .returned (.bool true) ∧ Below w.heap.size w w' := by
  have kl0 := fun W => laws_b10Long a0 n0 c0 W
  have kl1 := fun W => laws_b10Long a1 n1 c1 W
  by_cases hlen : n0 ≤ 1048576 ∧ n1 ≤ 1048576
  · rw [decide_eq_false (show ¬ (1048576 : Int) < (n0 : Int) by omega)] at kl0
    rw [decide_eq_false (show ¬ (1048576 : Int) < (n1 : Int) by omega)] at kl1
    have HZ0 := Lib.hid hz0
    have HZ1 := Lib.hid hz1
    clear hz0 hz1
    go_enter Try.func3, Try.ntmps3
    go_wp2_with fail
    refine (kl0 _).mono ?_
    rintro e w' ⟨rfl, rfl⟩
    go_wp2_with fail
    refine (kl1 _).mono ?_
    rintro e w' ⟨rfl, rfl⟩
    clear kl0 kl1
    go_wp2_with fail
    refine (spec_DrawVoteOf a0 n0 c0 _ HZ0.out hlen.1).mono ?_
    rintro e wa ⟨v, p, rfl, ⟨a, n, c, Z, rfl, n40, nc, cc, hO, hz⟩, hba⟩
    go_wp2_with fail
    refine (impl_VoteOf a n c Z p _ hO.ints (by omega)).mono ?_
    rintro e wb ⟨rfl, hbb⟩
    have hI := hO.ints.below hbb
    have hB := hba.trans (hbb.mono hba.size)
    have hF := vote_all Z n p
    have HP0 := fun hn => mz_vote (Z := Z) (n := n) (p := p) hn
    have HP1 := fun hn => voteI_cnt (Z := Z) (n := n) (p := p) hn
    have HP2 := fun hn => voteI_has (Z := Z) (n := n) (p := p) hn
    have HF := Lib.hid hF
    have H0 := Lib.hid HP0
    have H1 := Lib.hid HP1
    have H2 := Lib.hid HP2
    clear hF HP0 HP1 HP2 hO hba hbb hz
    generalize voteV Z n p = V at *
    generalize voteC Z n p = C at *
    go_upto_region 5 with fail
    go_cut [54] (fun u W => W = wb ∧ u = .bool (decide (C = 0 ∨ C = 3)))
    case first => as_aux_lemma =>
      by_cases h0 : C = 0
      · subst h0
        go_wp2
        go_meet
        exact ⟨rfl, rfl⟩
      · by_cases h3 : C = 3
        · subst h3
          go_wp2
          go_meet
          exact ⟨rfl, rfl⟩
        · go_wp2
          go_meet
          exact ⟨rfl, by simp [h0, h3]⟩
    case rest => as_aux_lemma =>
      obtain ⟨rfl, rfl⟩ := hcut
      go_upto_if 54 with fail
      go_cut [] (fun W => Below w.heap.size w W)
      case first => as_aux_lemma =>
        by_cases hC : C = 0 ∨ C = 3
        · rw [decide_eq_true hC]
          obtain ⟨n3, n32, p0, p1, hz, hq⟩ : 3 ≤ n ∧ n ≤ 32 ∧ 0 ≤ p ∧ p ≤ 1000000 ∧ (∀ j, j < n → -1000000000 ≤ Z j ∧ Z j ≤ 1000000000) ∧ ((C = 3 ∧ 2 * voteM Z n p ≤ n) ∨ (C = 0 ∧ (n : Int) < 2 * voteM Z n p ∧ V = Z (voteI Z n p))) := by
            rcases HF.out with h | h
            · omega
            · exact h
          have HZ := Lib.hid hz
          have HQ := Lib.hid hq
          clear HF hz hq hC
          go_wp2_with fail
          go_loopw [9, 10] (fun m i wr => ∃ k : Nat, k ≤ n ∧ i = .int .i64 (k : Int) ∧ m = .int .i64 (mz (fun i => (cntN Z p n i : Int)) k) ∧ IntsAt wr a n Z ∧ Below w.heap.size w wr) (fun _ i _ => n - (intOf i).toNat)
          case atStart => exact ⟨0, by omega, rfl, rfl, hI, hB⟩
          case round => as_aux_lemma =>
            clear hI hB
            obtain ⟨k, hk, rfl, rfl, hI, hB⟩ := hrel
            have hm := mz_bd (C := fun i => (cntN Z p n i : Int)) (b := n) (by omega) k (fun j _ => by
              have := cnt_le Z p (Z j) n
              show ((cntN Z p n j : Nat) : Int) ≤ n
              unfold cntN
              omega)
            by_cases hlt : k < n
            · obtain ⟨b, o, rfl, hb, hc⟩ := id hI (by omega)
              clear hb hc
              have zk := HZ.out k hlt
              have hM : mz (fun i => (cntN Z p n i : Int)) (k + 1) = max (mz (fun i => (cntN Z p n i : Int)) k) (cnt Z p (Z k) n : Int) := rfl
              generalize mz (fun i => (cntN Z p n i : Int)) k = M at *
              have HM := Lib.hid hM
              clear hM
              have k0 : (k : Int) < (n : Int) := by omega
              go_wp2_with fail
              go_loopw [11, 12] (fun q i wr => ∃ j : Nat, j ≤ n ∧ i = .int .i64 (j : Int) ∧ q = .int .i64 (cnt Z p (Z k) j : Int) ∧ IntsAt wr (some ⟨b, o, none⟩) n Z ∧ Below w.heap.size w wr) (fun _ i _ => n - (intOf i).toNat)
              case atStart => exact ⟨0, by omega, rfl, rfl, hI, hB⟩
              case round => as_aux_lemma =>
                clear hI hB
                obtain ⟨j, hj, rfl, rfl, hI, hB⟩ := hrel
                have cl := cnt_le Z p (Z k) j
                by_cases hlj : j < n
                · obtain ⟨b', o', e, hb1, hc⟩ := id hI (by omega)
                  injection e with e
                  injection e with e1 e2
                  subst e1
                  subst e2
                  have ck := hc k hlt
                  have cj := hc j hlj
                  have zj := HZ.out j hlj
                  clear hc
                  have j0 : (j : Int) < (n : Int) := by omega
                  have ka := fun W => laws_b10Abs (Z k - Z j) W (by omega) (by omega)
                  have hyes := fun h => cnt_yes (Z := Z) (p := p) (x := Z k) (k := j) h
                  have hno := fun h => cnt_no (Z := Z) (p := p) (x := Z k) (k := j) h
                  have ha : agr p (Z k) (Z j) = decide (absV (Z k - Z j) ≤ p) := rfl
                  rw [ha] at hyes hno
                  generalize absV (Z k - Z j) = A at *
                  have Hy := Lib.hid hyes
                  have Hn := Lib.hid hno
                  clear hyes hno ha
                  go_upto_region 14 with fail
                  (refine wp_region_cls (by kernel_rfl) (by kernel_rfl) ?_; (repeat (go_big_quiet_step ((go_at_call 7; with_reducible exact cls_S (ka _))))); refine wpQuiet_nil ?_; rintro _ ⟨u, rfl⟩; have hb := u.below; replace hB := hB.trans (hb.mono hB.size); generalize u.w = w' at *; obtain ⟨hc, hf, hs⟩ := bkeep hb; have hq' := hb.size; have hq := hB.size; have hb' := hb; clear hb)
                  have hI2 := hI.below hb'
                  clear hI hb' hc hf hs ck cj
                  by_cases hA : A ≤ p
                  · go_wp2
                    go_roundw
                    case rel => exact ⟨j + 1, by omega, by go_num, by rw [Hy.out (decide_eq_true hA)]; go_num, hI2, hB⟩
                    case measure => simp [intOf]; omega
                  · go_wp2
                    go_roundw
                    case rel => exact ⟨j + 1, by omega, by go_num, by rw [Hn.out (decide_eq_false (by omega))], hI2, hB⟩
                    case measure => simp [intOf]; omega
                · obtain rfl : j = n := by omega
                  go_wp2_with fail
                  exact ⟨⟨k + 1, by omega, by go_num, by rw [HM.out], hI, hB⟩, by simp [intOf]; omega⟩
            · obtain rfl : k = n := by omega
              have hvm := H0.out (by omega)
              generalize mz (fun i => (cntN Z p k i : Int)) k = M at *
              subst hvm
              have vl := voteI_lt (Z := Z) (p := p) (show 0 < k by omega)
              have hcn := H1.out (by omega)
              have hhs := H2.out (by omega)
              have zv := HZ.out _ vl
              generalize Z (voteI Z k p) = zv' at *
              generalize voteM Z k p = M at *
              rcases HQ.out with ⟨rfl, hq⟩ | ⟨rfl, hq, rfl⟩
              · clear HQ hcn hhs zv
                go_wp2_with fail
                go_meet
                exact hB
              · have kh := fun W h => laws_b10Has a k c Z V W h (by omega)
                rw [hhs] at kh
                have HC := Lib.hid hcn
                clear HQ hcn hhs
                go_wp2_with fail
                refine (kh _ hI).mono ?_
                rintro e w' ⟨rfl, rfl⟩
                clear kh
                go_wp2_with fail
                go_loopw [13, 14] (fun q i wr => ∃ j : Nat, j ≤ k ∧ i = .int .i64 (j : Int) ∧ q = .int .i64 (cnt Z p V j : Int) ∧ IntsAt wr a k Z ∧ Below w.heap.size w wr) (fun _ i _ => k - (intOf i).toNat)
                case atStart => exact ⟨0, by omega, rfl, rfl, hI, hB⟩
                case round => as_aux_lemma =>
                  clear hI hB
                  obtain ⟨j, hj, rfl, rfl, hI, hB⟩ := hrel
                  have cl := cnt_le Z p V j
                  by_cases hlj : j < k
                  · obtain ⟨b', o', rfl, hb1, hc⟩ := id hI (by omega)
                    have cj := hc j hlj
                    have zj := HZ.out j hlj
                    clear hc
                    have j0 : (j : Int) < (k : Int) := by omega
                    have ka := fun W => laws_b10Abs (V - Z j) W (by omega) (by omega)
                    have hyes := fun h => cnt_yes (Z := Z) (p := p) (x := V) (k := j) h
                    have hno := fun h => cnt_no (Z := Z) (p := p) (x := V) (k := j) h
                    have ha : agr p V (Z j) = decide (absV (V - Z j) ≤ p) := rfl
                    rw [ha] at hyes hno
                    generalize absV (V - Z j) = A at *
                    have Hy := Lib.hid hyes
                    have Hn := Lib.hid hno
                    clear hyes hno ha
                    go_wp2_with fail
                    refine (ka _).mono ?_
                    rintro e w' ⟨rfl, rfl⟩
                    by_cases hA : A ≤ p
                    · go_wp2
                      go_roundw
                      case rel => exact ⟨j + 1, by omega, by go_num, by rw [Hy.out (decide_eq_true hA)]; go_num, hI, hB⟩
                      case measure => simp [intOf]; omega
                    · go_wp2
                      go_roundw
                      case rel => exact ⟨j + 1, by omega, by go_num, by rw [Hn.out (decide_eq_false (by omega))], hI, hB⟩
                      case measure => simp [intOf]; omega
                  · obtain rfl : j = k := by omega
                    rw [HC.out]
                    clear HC
                    go_wp2_with fail
                    go_meet
                    exact hB
        · rw [decide_eq_false hC]
          go_wp2_with fail
          go_meet
          exact hB
      case rest => as_aux_lemma =>
        clear H0 H1 H2 HF hI n40 nc cc
        clear Z
        go_wp2_with fail
        refine (spec_DrawOddReading a1 n1 c1 _ (HZ1.out.below hcut) hlen.2).mono ?_
        rintro e wd ⟨v2, q, rfl, ⟨a2, m, d, Y, rfl, m40, md, dd, hO, hy⟩, hbd⟩
        have hB2 := hcut.trans (hbd.mono hcut.size)
        clear hcut hy
        go_wp2_with fail
        refine (impl_OddReading a2 m d Y q _ hO.ints (by omega) md dd).mono ?_
        rintro e we ⟨rfl, hbe⟩
        have hI := hO.ints.below hbe
        have hB := hB2.trans (hbe.mono hB2.size)
        have HF := Lib.hid (odd_all Y m q)
        clear hO hB2 hbe hbd md dd
        generalize oddV Y m q = V2 at *
        generalize oddC Y m q = D at *
        go_upto_if 136 with fail
        go_cut [] (fun W => Below w.heap.size w W)
        case first => as_aux_lemma =>
          by_cases hD : D = 0
          · subst hD
            obtain ⟨m3, m32, q0, q1, x, hx, rfl, hy, hp⟩ : 3 ≤ m ∧ m ≤ 32 ∧ 0 ≤ q ∧ q ≤ 1000000 ∧ ∃ x : Nat, x < m ∧ V2 = x ∧ (∀ j, j < m → -1000000000 ≤ Y j ∧ Y j ≤ 1000000000) ∧ ∀ i k, k < i → i < m → agr q (Y i) (Y k) = !(decide ((i : Int) = (x : Int)) || decide ((k : Int) = (x : Int))) := by
              rcases HF.out with h | h
              · exact absurd rfl h
              · exact h.2
            have HY := Lib.hid hy
            have HP := Lib.hid hp
            clear HF hy hp
            go_wp2_with fail
            go_loopw [19] (fun i wr => ∃ k : Nat, k ≤ m ∧ i = .int .i64 (k : Int) ∧ IntsAt wr a2 m Y ∧ Below w.heap.size w wr) (fun i _ => m - (intOf i).toNat)
            case atStart => exact ⟨0, by omega, rfl, hI, hB⟩
            case round => as_aux_lemma =>
              clear hI hB
              obtain ⟨k, hk, rfl, hI, hB⟩ := hrel
              by_cases hlt : k < m
              · obtain ⟨b, o, rfl, hb, hc⟩ := id hI (by omega)
                clear hb hc
                have yk := HY.out k hlt
                have k0 : (k : Int) < (m : Int) := by omega
                go_wp2_with fail
                go_loopw [20] (fun i wr => ∃ j : Nat, j ≤ k ∧ i = .int .i64 (j : Int) ∧ IntsAt wr (some ⟨b, o, none⟩) m Y ∧ Below w.heap.size w wr) (fun i _ => k - (intOf i).toNat)
                case atStart => exact ⟨0, by omega, rfl, hI, hB⟩
                case round => as_aux_lemma =>
                  clear hI hB
                  obtain ⟨j, hj, rfl, hI, hB⟩ := hrel
                  by_cases hlj : j < k
                  · obtain ⟨b', o', e, hb1, hc⟩ := id hI (by omega)
                    injection e with e
                    injection e with e1 e2
                    subst e1
                    subst e2
                    have ck := hc k hlt
                    have cj := hc j (by omega)
                    have yj := HY.out j (by omega)
                    clear hc
                    have j0 : (j : Int) < (k : Int) := by omega
                    have j1 : (j : Int) < (m : Int) := by omega
                    have ka := fun W => laws_b10Abs (Y k - Y j) W (by omega) (by omega)
                    have ha : decide (absV (Y k - Y j) ≤ q) = !(decide ((k : Int) = (x : Int)) || decide ((j : Int) = (x : Int))) := HP.out k j hlj hlt
                    generalize absV (Y k - Y j) = A at *
                    by_cases h1 : (k : Int) = (x : Int)
                    · have hA : ¬ A ≤ q := by
                        rw [decide_eq_true h1] at ha
                        simpa using ha
                      clear ha HP
                      obtain rfl : k = x := by omega
                      clear h1
                      go_upto_region 39 with fail
                      (refine wp_region_cls (by kernel_rfl) (by kernel_rfl) ?_; (repeat (go_big_quiet_step ((go_at_call 7; with_reducible exact cls_S (ka _))))); refine wpQuiet_nil ?_; rintro _ ⟨u, rfl⟩; have hb := u.below; replace hB := hB.trans (hb.mono hB.size); generalize u.w = w' at *; obtain ⟨hc, hf, hs⟩ := bkeep hb; have hq' := hb.size; have hq := hB.size; have hb' := hb; clear hb)
                      have hI2 := hI.below hb'
                      clear hI hb' hc hf hs ck cj
                      go_wp2
                      go_roundw
                      case rel => exact ⟨j + 1, by omega, by go_num, hI2, hB⟩
                      case measure => simp [intOf]; omega
                    · by_cases h2 : (j : Int) = (x : Int)
                      · have hA : ¬ A ≤ q := by
                          rw [decide_eq_true h2, Bool.or_true] at ha
                          simpa using ha
                        clear ha HP
                        obtain rfl : j = x := by omega
                        clear h2
                        have g1 : ((k : Int) == (j : Int)) = false := by simpa using h1
                        go_upto_region 39 with fail
                        (refine wp_region_cls (by kernel_rfl) (by kernel_rfl) ?_; (repeat (go_big_quiet_step ((go_at_call 7; with_reducible exact cls_S (ka _))))); refine wpQuiet_nil ?_; rintro _ ⟨u, rfl⟩; have hb := u.below; replace hB := hB.trans (hb.mono hB.size); generalize u.w = w' at *; obtain ⟨hc, hf, hs⟩ := bkeep hb; have hq' := hb.size; have hq := hB.size; have hb' := hb; clear hb)
                        have hI2 := hI.below hb'
                        clear hI hb' hc hf hs ck cj
                        go_wp2
                        go_roundw
                        case rel => exact ⟨j + 1, by omega, by go_num, hI2, hB⟩
                        case measure => simp [intOf]; omega
                      · have hA : A ≤ q := by
                          rw [decide_eq_false h1, decide_eq_false h2] at ha
                          simpa using ha
                        clear ha HP
                        have g1 : ((k : Int) == (x : Int)) = false := by simpa using h1
                        have g2 : ((j : Int) == (x : Int)) = false := by simpa using h2
                        go_upto_region 39 with fail
                        (refine wp_region_cls (by kernel_rfl) (by kernel_rfl) ?_; (repeat (go_big_quiet_step ((go_at_call 7; with_reducible exact cls_S (ka _))))); refine wpQuiet_nil ?_; rintro _ ⟨u, rfl⟩; have hb := u.below; replace hB := hB.trans (hb.mono hB.size); generalize u.w = w' at *; obtain ⟨hc, hf, hs⟩ := bkeep hb; have hq' := hb.size; have hq := hB.size; have hb' := hb; clear hb)
                        have hI2 := hI.below hb'
                        clear hI hb' hc hf hs ck cj
                        go_wp2
                        go_roundw
                        case rel => exact ⟨j + 1, by omega, by go_num, hI2, hB⟩
                        case measure => simp [intOf]; omega
                  · obtain rfl : j = k := by omega
                    go_wp2_with fail
                    go_roundw
                    case rel => exact ⟨j + 1, by omega, by go_num, hI, hB⟩
                    case measure => simp [intOf]; omega
              · obtain rfl : k = m := by omega
                go_wp2_with fail
                go_meet
                exact hB
          · clear HF
            go_wp2_with fail
            go_meet
            exact hB
        case rest => as_aux_lemma =>
          clear HF hI m40
          clear Y
          go_wp2_with fail
          refine (spec_DrawSettled a0 n0 c0 _ (HZ0.out.below hcut) hlen.1).mono ?_
          rintro e wf ⟨v3, t, rfl, ⟨a3, s, d3, Z, rfl, s40, sd, dd, hO, hy⟩, hbf⟩
          have hB2 := hcut.trans (hbf.mono hcut.size)
          clear hcut hy
          go_wp2_with fail
          refine (impl_Settled a3 s d3 Z t _ hO.ints (by omega)).mono ?_
          rintro e wg ⟨a4, c4, rfl, hL, hbg⟩
          have hI := hO.ints.below hbg
          have hB := hB2.trans (hbg.mono hB2.size)
          have hJ := hL.ints
          clear hL hO hB2 hbf hbg
          have HF := Lib.hid (settled_all Z t s)
          generalize hl : (settledL Z t s).length = l at *
          generalize settledL Z t s = L at *
          generalize settledCode Z t s = E at *
          go_upto_if 189 with fail
          go_cut [] (fun W => Below w.heap.size w W)
          case first => as_aux_lemma =>
            by_cases hE : E = 0
            · subst hE
              obtain ⟨s32, hll, hlast⟩ : s ≤ 32 ∧ l = s ∧ ∀ j, j < s → L.getD j 0 = lastZ Z t (j + 1) := by
                rcases HF.out with h | h
                · exact absurd rfl h
                · exact h
              obtain rfl := hll
              have HL := Lib.hid hlast
              clear HF hlast
              go_wp2_with fail
              go_loopw [25] (fun i wr => ∃ k : Nat, k ≤ l ∧ i = .int .i64 (k : Int) ∧ IntsAt wr a3 l Z ∧ IntsAt wr a4 l (fun j => L.getD j 0) ∧ Below w.heap.size w wr) (fun i _ => l - (intOf i).toNat)
              case atStart => exact ⟨0, by omega, rfl, hI, hJ, hB⟩
              case round => as_aux_lemma =>
                clear hI hJ hB
                obtain ⟨k, hk, rfl, hI, hJ, hB⟩ := hrel
                by_cases hlt : k < l
                · obtain ⟨b, o, rfl, hb1, hc⟩ := id hI (by omega)
                  obtain ⟨b2, o2, rfl, hb2, hd⟩ := id hJ (by omega)
                  have ck := hc k hlt
                  have cz := hc 0 (by omega)
                  have cz0 : wr.cell? ⟨b, o, none⟩ = some (.int .i64 (Z 0)) := cz
                  have l0 : (0 : Int) < (l : Int) := by omega
                  have dk := hd k hlt
                  have hv := HL.out k hlt
                  have hIp : IntsAt wr (some ⟨b, o, none⟩) (k + 1) Z := fun _ => ⟨b, o, rfl, hb1, fun j hj => hc j (by omega)⟩
                  dsimp only at dk
                  generalize L.getD k 0 = y at *
                  have kh := fun C W h => laws_b10Has (some ⟨b, o, none⟩) (k + 1) C Z y W h (by omega)
                  rw [show any (fun j => Z j == y) (k + 1) = true by rw [hv]; exact last_has Z t k] at kh
                  have k0 : (k : Int) < (l : Int) := by omega
                  have k1 : (k : Int) + 1 ≤ (d3 : Int) := by omega
                  clear hc hd
                  have hy1 : t = 1 → y = Z k := fun h => by rw [hv, h]; exact last_one k
                  have hy0 : k = 0 → y = Z 0 := fun h => by rw [hv, h]; exact last_1 Z t
                  clear hv
                  by_cases ht : t = 1
                  · obtain rfl := hy1 ht
                    subst ht
                    by_cases hk0 : k = 0
                    · have g1 : ((k : Int) == 0) = true := by simp; omega
                      have e0 : Z 0 = Z k := by rw [hk0]
                      rw [e0] at cz cz0
                      clear hy1 hy0 e0 hk0
                      go_upto_region 49 with fail
                      (refine wp_region_cls (by kernel_rfl) (by kernel_rfl) ?_; (repeat (go_big_quiet_step ((go_at_call 8; with_reducible exact cls_S (kh _ _ (hIp.below (Cls.below _))))))); refine wpQuiet_nil ?_; rintro _ ⟨u, rfl⟩; have hb := u.below; replace hB := hB.trans (hb.mono hB.size); generalize u.w = w' at *; obtain ⟨hc, hf, hs⟩ := bkeep hb; have hq' := hb.size; have hq := hB.size; have hb' := hb; clear hb)
                      have hI2 := hI.below hb'
                      have hJ2 := hJ.below hb'
                      clear hI hJ hIp kh hb' hc hf hs ck cz cz0 dk
                      go_wp2
                      go_roundw
                      case rel => exact ⟨k + 1, by omega, by go_num, hI2, hJ2, hB⟩
                      case measure => simp [intOf]; omega
                    · have g1 : ((k : Int) == 0) = false := by simp; omega
                      clear hy1 hy0
                      go_upto_region 49 with fail
                      (refine wp_region_cls (by kernel_rfl) (by kernel_rfl) ?_; (repeat (go_big_quiet_step ((go_at_call 8; with_reducible exact cls_S (kh _ _ (hIp.below (Cls.below _))))))); refine wpQuiet_nil ?_; rintro _ ⟨u, rfl⟩; have hb := u.below; replace hB := hB.trans (hb.mono hB.size); generalize u.w = w' at *; obtain ⟨hc, hf, hs⟩ := bkeep hb; have hq' := hb.size; have hq := hB.size; have hb' := hb; clear hb)
                      have hI2 := hI.below hb'
                      have hJ2 := hJ.below hb'
                      clear hI hJ hIp kh hb' hc hf hs ck cz cz0 dk
                      go_wp2
                      go_roundw
                      case rel => exact ⟨k + 1, by omega, by go_num, hI2, hJ2, hB⟩
                      case measure => simp [intOf]; omega
                  · have g2 : (t == 1) = false := by simpa using ht
                    by_cases hk0 : k = 0
                    · have g1 : ((k : Int) == 0) = true := by simp; omega
                      obtain rfl := hy0 hk0
                      clear hy1 hy0 hk0
                      go_upto_region 49 with fail
                      (refine wp_region_cls (by kernel_rfl) (by kernel_rfl) ?_; (repeat (go_big_quiet_step ((go_at_call 8; with_reducible exact cls_S (kh _ _ (hIp.below (Cls.below _))))))); refine wpQuiet_nil ?_; rintro _ ⟨u, rfl⟩; have hb := u.below; replace hB := hB.trans (hb.mono hB.size); generalize u.w = w' at *; obtain ⟨hc, hf, hs⟩ := bkeep hb; have hq' := hb.size; have hq := hB.size; have hb' := hb; clear hb)
                      have hI2 := hI.below hb'
                      have hJ2 := hJ.below hb'
                      clear hI hJ hIp kh hb' hc hf hs ck cz cz0 dk
                      go_wp2
                      go_roundw
                      case rel => exact ⟨k + 1, by omega, by go_num, hI2, hJ2, hB⟩
                      case measure => simp [intOf]; omega
                    · have g1 : ((k : Int) == 0) = false := by simp; omega
                      clear hy1 hy0
                      go_upto_region 49 with fail
                      (refine wp_region_cls (by kernel_rfl) (by kernel_rfl) ?_; (repeat (go_big_quiet_step ((go_at_call 8; with_reducible exact cls_S (kh _ _ (hIp.below (Cls.below _))))))); refine wpQuiet_nil ?_; rintro _ ⟨u, rfl⟩; have hb := u.below; replace hB := hB.trans (hb.mono hB.size); generalize u.w = w' at *; obtain ⟨hc, hf, hs⟩ := bkeep hb; have hq' := hb.size; have hq := hB.size; have hb' := hb; clear hb)
                      have hI2 := hI.below hb'
                      have hJ2 := hJ.below hb'
                      clear hI hJ hIp kh hb' hc hf hs ck cz cz0 dk
                      go_wp2
                      go_roundw
                      case rel => exact ⟨k + 1, by omega, by go_num, hI2, hJ2, hB⟩
                      case measure => simp [intOf]; omega
                · obtain rfl : k = l := by omega
                  go_wp2_with fail
                  go_meet
                  exact hB
            · clear HF
              go_wp2_with fail
              go_meet
              exact hB
          case rest => as_aux_lemma =>
            clear HF hI hJ s40 sd dd hl
            clear Z
            go_wp2_with fail
            refine (spec_DrawOffsetOf a1 n1 c1 _ (HZ1.out.below hcut) hlen.2).mono ?_
            rintro e wh ⟨v5, v6, rfl, ⟨a5, n5, c5, X, rfl, x40, _, _, hX, _⟩, ⟨a6, n6, c6, Y, rfl, y40, _, _, hY, _⟩, hbh⟩
            have hB2 := hcut.trans (hbh.mono hcut.size)
            have hX1 := hX.ints
            have hY1 := hY.ints
            clear hcut hbh hX hY
            go_wp2_with fail
            refine (impl_OffsetOf a5 a6 n5 n6 c5 c6 X Y _ hX1 hY1 (by omega) (by omega)).mono ?_
            rintro e wi ⟨rfl, hbi⟩
            have hB3 := hB2.trans (hbi.mono hB2.size)
            have hX2 := hX1.below hbi
            have hY2 := hY1.below hbi
            clear hB2 hX1 hY1 hbi
            go_wp2_with fail
            refine (impl_OffsetOf a6 a5 n6 n5 c6 c5 Y X _ hY2 hX2 (by omega) (by omega)).mono ?_
            rintro e wj ⟨rfl, hbj⟩
            have hB := hB3.trans (hbj.mono hB3.size)
            have hX3 := hX2.below hbj
            have hY3 := hY2.below hbj
            have hF := off_all X Y n5 n6
            clear hB3 hX2 hY2 hbj
            generalize offV X Y n5 n6 = A at *
            generalize offCode X Y n5 n6 = F at *
            generalize offV Y X n6 n5 = B at *
            generalize offCode Y X n6 n5 = G at *
            rcases hF with ⟨hF, rfl⟩ | ⟨rfl, e1, n32, rfl, hx, hy, rfl, hA, hB5, hP, hE⟩
            · go_wp2_with fail
              go_returns
              exact ⟨rfl, hB⟩
            · have k6 := fun W h => laws_b10Sum a6 n5 c6 Y W h (by omega) hy
              have k5 := fun W h => laws_b10Sum a5 n5 c5 X W h (by omega) hx
              have sx := sumN_bd hx n5 (Nat.le_refl _)
              have sy := sumN_bd hy n5 (Nat.le_refl _)
              generalize sumN X n5 = SX at *
              generalize sumN Y n5 = SY at *
              have ka := fun W => laws_b10Abs (A * (n5 : Int) - SY + SX) W (by omega) (by omega)
              have qp : 0 ≤ absV (A * (n5 : Int) - SY + SX) := by unfold absV; split <;> omega
              generalize absV (A * (n5 : Int) - SY + SX) = Q at *
              have Q0 : 2 * Q ≤ (n5 : Int) := by omega
              have Q1 : wrap64 (2 * Q) ≤ (n5 : Int) := by unfold wrap64; omega
              clear hx hy
              go_wp2_with fail
              refine (k6 _ hY3).mono ?_
              rintro e w' ⟨rfl, rfl⟩
              go_wp2_with fail
              refine (k5 _ hX3).mono ?_
              rintro e w' ⟨rfl, rfl⟩
              go_wp2_with fail
              refine (ka _).mono ?_
              rintro e w' ⟨rfl, rfl⟩
              go_wp2_with fail
              go_returns
              exact ⟨rfl, hB⟩
  · by_cases h0 : 1048576 < n0
    · rw [decide_eq_true (show (1048576 : Int) < (n0 : Int) by omega)] at kl0
      clear kl1
      go_enter Try.func3, Try.ntmps3
      go_wp2_with fail
      refine (kl0 _).mono ?_
      rintro e w' ⟨rfl, rfl⟩
      go_wp2_with fail
      go_returns
      exact ⟨rfl, Below.refl _ _⟩
    · rw [decide_eq_false (show ¬ (1048576 : Int) < (n0 : Int) by omega)] at kl0
      rw [decide_eq_true (show (1048576 : Int) < (n1 : Int) by omega)] at kl1
      go_enter Try.func3, Try.ntmps3
      go_wp2_with fail
      refine (kl0 _).mono ?_
      rintro e w' ⟨rfl, rfl⟩
      go_wp2_with fail
      refine (kl1 _).mono ?_
      rintro e w' ⟨rfl, rfl⟩
      go_wp2_with fail
      go_returns
      exact ⟨rfl, Below.refl _ _⟩

end Go.Proofs.Ytjckgheidmfpnaa
