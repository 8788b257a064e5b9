/-
  Contracts: switches that were missed.
-/
import Derived.Test.YtlkcnflhofophaaKH
import Derived.Test.YtlkcnflhofophaaAp
import Derived.Test.YtlkcnflhofophaaPv
namespace Go.Proofs.Ytlkcnflhofophaa
open Go.RowKit
set_option linter.unusedVariables false
set_option linter.unusedSimpArgs false


set_option maxHeartbeats 2000000 in
theorem spec_l00Put (a : Option Addr) (c : Nat) (L : List Int) (x : Int) (w : World) (hz : IntsAt w a L.length (fun j => L.getD j 0)) (hn : L.length ≤ 1048576) :
    Calls Try.prog 72 #[.slice a L.length c, .int .i64 x] w (RetRow (putF x L) w) := by
  have hi := hz
  go_enter Try.func72, Try.ntmps72
  go_wp2
  go_loopw [5, 6, 7] (fun o d i wr => ∃ k : Nat, k ≤ L.length ∧ i = .int .i64 k ∧ d = .bool (putSt x (L.take k)).2 ∧ AppOf w.heap.size wr o (putSt x (L.take k)).1 ∧ Below w.heap.size w wr) (fun _ _ i _ => L.length - (intOf i).toNat)
  case atStart => exact ⟨0, by omega, rfl, rfl, AppOf.made (Nat.le_refl _), by go_grown⟩
  case round =>
    obtain ⟨k, hk, rfl, rfl, hA, hB⟩ := hrel
    have hq := hB.size
    have hlen0 := putSt_len x (L.take k)
    have hlen : (putSt x (L.take k)).1.length ≤ 4194304 := by
      have : (L.take k).length ≤ k := List.length_take_le _ _
      omega
    clear hlen0
    by_cases hlt : k < L.length
    · obtain ⟨b, o, rfl, hb, hc⟩ := hi (by omega)
      have ck := (hB.cell (p := ⟨b, o + k, none⟩) hb).trans (hc k hlt)
      dsimp only at ck
      have hb1 : b < wr.heap.size := Nat.lt_of_lt_of_le hb hB.size
      have hN := putSt_take (x := x) hlt
      clear hc
      generalize hy : L.getD k 0 = y at *
      have HY := Lib.hid hy
      clear hy
      generalize putSt x (L.take k) = A at *
      obtain ⟨A, dn⟩ := A
      dsimp only at *
      have HL : Hid (L.length = L.length) := rfl
      cases dn
      · by_cases h1 : x ≤ y
        · have d1 : decide (x ≤ y) = true := decide_eq_true h1
          by_cases h2 : x < y
          · have HN := Lib.hid (hN.trans (show _ = (A ++ [x] ++ [y], true) by unfold putS; rw [if_pos (by simp; exact h1), if_pos h2]))
            clear hN
            have hlen2 : (A ++ [x]).length ≤ 16777216 := by simp; omega
            replace hlen : A.length ≤ 16777216 := by omega
            go_wp2_with (first | (at_builtin; refine app_int _ rfl _ _ rfl w.heap.size _ _ rfl (hA2.alloc _) w1.heap.size 1 y rfl (by go_cell) hlen2 (by simp; omega) ?_; intro v' w2 hA' hw2) | (at_builtin; refine app_int _ rfl _ _ rfl w.heap.size _ _ rfl (hA.alloc _) wr.heap.size 1 x rfl (by go_cell) hlen (by simp; omega) ?_; intro v1 w1 hA2 hw1; replace hB := (Below.alloc hB hq _).trans hw1; have hq1 := hB.size; have ck1 := (hw1.cell (p := ⟨b, o + k, none⟩) hb).trans (cell_old ck hb1); have hb3 := Nat.lt_of_lt_of_le (lt_alloc hb1) hw1.size))
            go_roundw
            case rel => exact ⟨k + 1, by omega, by go_num, by rw [HN.out], by rw [HN.out]; exact hA', (Below.alloc hB hq1 _).trans hw2⟩
            case measure => simp [intOf]; omega
          · have HN := Lib.hid (hN.trans (show _ = (A ++ [y], true) by unfold putS; rw [if_pos (by simp; exact h1), if_neg h2]))
            clear hN
            replace hlen : A.length ≤ 16777216 := by omega
            go_wp2_with (at_builtin; refine app_int _ rfl _ _ rfl w.heap.size _ _ rfl (hA.alloc _) wr.heap.size 1 (y) rfl (by go_cell) hlen (by simp; omega) ?_; intro v' w1 hA' hw1)
            go_roundw
            case rel => exact ⟨k + 1, by omega, by go_num, by rw [HN.out], by rw [HN.out]; exact hA', (Below.alloc hB hq _).trans hw1⟩
            case measure => simp [intOf]; omega
        · have d1 : decide (x ≤ y) = false := decide_eq_false h1
          have HN := Lib.hid (hN.trans (show _ = (A ++ [y], false) by unfold putS; rw [if_neg (by simp; omega)]))
          clear hN
          replace hlen : A.length ≤ 16777216 := by omega
          go_wp2_with (at_builtin; refine app_int _ rfl _ _ rfl w.heap.size _ _ rfl (hA.alloc _) wr.heap.size 1 (y) rfl (by go_cell) hlen (by simp; omega) ?_; intro v' w1 hA' hw1)
          go_roundw
          case rel => exact ⟨k + 1, by omega, by go_num, by rw [HN.out], by rw [HN.out]; exact hA', (Below.alloc hB hq _).trans hw1⟩
          case measure => simp [intOf]; omega
      · have HN := Lib.hid (hN.trans (show _ = (A ++ [y], true) by unfold putS; rw [if_neg (by simp)]))
        clear hN
        replace hlen : A.length ≤ 16777216 := by omega
        go_wp2_with (at_builtin; refine app_int _ rfl _ _ rfl w.heap.size _ _ rfl (hA.alloc _) wr.heap.size 1 (y) rfl (by go_cell) hlen (by simp; omega) ?_; intro v' w1 hA' hw1)
        go_roundw
        case rel => exact ⟨k + 1, by omega, by go_num, by rw [HN.out], by rw [HN.out]; exact hA', (Below.alloc hB hq _).trans hw1⟩
        case measure => simp [intOf]; omega
    · obtain rfl : k = L.length := by omega
      have hF : putF x L = if (putSt x (L.take L.length)).2 = true then (putSt x (L.take L.length)).1 else (putSt x (L.take L.length)).1 ++ [x] := by rw [List.take_length]; rfl
      generalize putSt x (L.take L.length) = A at *
      obtain ⟨A, dn⟩ := A
      dsimp only at *
      cases dn
      · rw [if_neg (by decide)] at hF
        have HF := Lib.hid hF
        replace hlen : A.length ≤ 16777216 := by omega
        clear hF
        go_wp2_with (at_builtin; refine app_int _ rfl _ _ rfl w.heap.size _ _ rfl (hA.alloc _) wr.heap.size 1 (x) rfl (by go_cell) hlen (by simp; omega) ?_; intro v' w1 hA' hw1)
        go_returns
        rw [HF.out]
        exact hA'.row ((Below.alloc hB hq _).trans hw1)
      · rw [if_pos rfl] at hF
        have HF := Lib.hid hF
        clear hF
        go_wp2
        go_returns
        rw [HF.out]
        exact hA.row hB

set_option maxHeartbeats 4000000 in
theorem spec_MissedSwitches (a : Option Addr) (n c : Nat) (Z : Nat → Int) (a' : Option Addr) (m c' : Nat) (S T : Nat → Int) (w : World) (hz : IntsAt w a n Z) (hy : PassAt w a' m S T) (hn : n ≤ 1048576) (hm : m ≤ 1048576) :
    Calls Try.prog 38 #[.slice a n c, .slice a' m c'] w (RetInts (okL (passOk Z n S T m) (missA S n m)) (okC (passOk Z n S T m) 1) w) := by
  have kv := spec_l12Ok a n c Z a' m c' S T w hz hy hn hm
  cases h : passOk Z n S T m
  · rw [h] at kv
    rw [okL_no, okC_no]
    clear h
    go_enter Try.func38, Try.ntmps38
    go_wp2_with (go_at_call 50; (with_reducible refine (kv).mono ?_); rintro e w' ⟨rfl, hb⟩; obtain ⟨hc, hf⟩ := bcell hb; have hz : w.heap.size ≤ w'.heap.size := (by have := hb.size; (try simp at this); omega); have hB : Below w.heap.size w w' := Below.trans (by go_grown) (hb.mono (by go_size)))
    go_returns
    exact ret_none (by go_grown)
  · rw [h] at kv
    rw [okL_yes, okC_yes]
    obtain ⟨hr, h16, hg, h32⟩ := passOk_parts h
    have hs := fun k h => goodP_at (k := k) hg h
    have HS := Lib.hid hs
    have hd := fun k h => (goodP_next (k := k) hg h).2
    have HD := Lib.hid hd
    clear hr hg h hs hd
    go_enter Try.func38, Try.ntmps38
    go_wp2_with fail
    (with_reducible refine kv.mono ?_)
    rintro e w0 ⟨rfl, hB0⟩
    replace hy := hy.below hB0
    clear kv hz
    go_wp2
    go_loopw [6, 7] (fun o i wr => ∃ j : Nat, (j = 0 ∨ j + 1 ≤ m) ∧ i = .int .i64 ((j : Int) + 1) ∧ RowOf w0.heap.size wr o (filt (missB S j) n) ∧ Below w0.heap.size w0 wr) (fun _ i _ => m - (intOf i).toNat)
    case atStart => exact ⟨0, by omega, rfl, by rw [filt_false (q := missB S 0) (fun s _ => rfl)]; exact RowOf.empty _ _ _ _, by go_grown⟩
    case round =>
      obtain ⟨j, hj, rfl, hA, hB⟩ := hrel
      have hq := hB.size
      by_cases hlt : j + 1 < m
      · obtain ⟨b, o, rfl, hb, hc⟩ := hy (by omega)
        have c0 := (hB.cell (p := ⟨b, o + j * 2, none⟩) hb).trans (hc j (by omega)).1
        have c1 := (hB.cell (p := ⟨b, o + (j + 1) * 2, none⟩) hb).trans (hc (j + 1) hlt).1
        have hb1 : b < wr.heap.size := Nat.lt_of_lt_of_le hb hB.size
        obtain ⟨s00, s01, _, _⟩ := HS.out j (by omega)
        obtain ⟨s10, s11, _, _⟩ := HS.out (j + 1) hlt
        have i0 : (0 : Int) ≤ (j : Int) := by omega
        have i1 : (j : Int) + 1 < (m : Int) := by omega
        have i2 : (0 : Int) ≤ (j : Int) + 1 := by omega
        have i3 : (j : Int) < (m : Int) := by omega
        have i5 : ((j : Int) + 1).toNat = j + 1 := by omega
        have i6 : (j : Int) + 1 - 1 = (j : Int) := by omega
        have i7 : IntKind.i64.wrap (j : Int) = (j : Int) := IntWalk.i64_in _ (by omega)
        have kmin := fun W => spec_l00Min (S j) (S (j + 1)) W
        have kmax := fun W => spec_l00Max (S j) (S (j + 1)) W
        have HM := Lib.hid (fun x h => missP_start (S := S) (i := j) (x := x) h n)
        have HX := Lib.hid (fun x h => missP_next (S := S) (i := j) (x := x) h n)
        have HE := Lib.hid (fun x h h' => missP_end (S := S) (i := j) (x := x) h h' n)
        have b1 : 0 ≤ min (S j) (S (j + 1)) := by omega
        have b2 : max (S j) (S (j + 1)) < (n : Int) := by omega
        have b3 : min (S j) (S (j + 1)) ≤ max (S j) (S (j + 1)) := by omega
        clear hc hj s00 s01 s10 s11
        go_wp2
        (refine wp_region_cls (by kernel_rfl) (by kernel_rfl) ?_; (repeat (go_big_quiet_step ((go_at_call 71; exact cls_S (kmin _))))); refine wpQuiet_nil ?_; rintro _ ⟨u, rfl⟩; have hb := u.below; replace hB := hB.trans (hb.mono hB.size); replace hA := hA.below hb; generalize u.w = w' at *; obtain ⟨hc, hf, hs⟩ := bkeep hb; have hq' := hb.size; have hq := hB.size; have hb' := hb; clear hb)
        go_wp2
        (refine wp_region_cls (by kernel_rfl) (by kernel_rfl) ?_; (repeat (go_big_quiet_step ((go_at_call 46; exact cls_S (kmax _))))); refine wpQuiet_nil ?_; rintro _ ⟨u, rfl⟩; have hb := u.below; replace hB := hB.trans (hb.mono hB.size); replace hA := hA.below hb; generalize u.w = w' at *; obtain ⟨hc, hf, hs⟩ := bkeep hb; have hq' := hb.size; have hq := hB.size; have hb' := hb; clear hb)
        generalize min (S j) (S (j + 1)) = lo at *
        generalize max (S j) (S (j + 1)) = hi at *
        obtain ⟨wo, ewo⟩ : ∃ wo : World, wo = w' := ⟨_, rfl⟩
        have HW := Lib.hid ewo
        clear ewo
        go_wp2
        go_loopw [6, 10] (fun o i wi => ∃ x : Nat, lo < x ∧ ((x : Int) ≤ hi ∨ (x : Int) = lo + 1) ∧ i = .int .i64 x ∧ RowOf w0.heap.size wi o (filt (missP S j x) n) ∧ Below w0.heap.size w0 wi) (fun _ i _ => (hi - intOf i).toNat)
        case atStart => exact ⟨(lo + 1).toNat, by omega, by omega, by rw [show (((lo + 1).toNat : Nat) : Int) = lo + 1 by omega], by rw [HM.out _ (by omega)]; exact hA, hB⟩
        case round =>
          obtain ⟨x, hx1, hx2, rfl, hA, hB⟩ := hrel
          have hq := hB.size
          have hlen := filt_len (missP S j x) n
          by_cases hlt2 : (x : Int) < hi
          · obtain ⟨a1, cc1, rfl, hO⟩ := hA
            have hp := putF_filt (q := missP S j x) (x := x) (n := n) (by omega)
            have HP := Lib.hid (hp.trans (HX.out x hx1).symm)
            clear hp
            generalize hF : filt (missP S j x) n = F at *
            have kp := fun W h => spec_l00Put a1 cc1 F x W h (by omega)
            have HF := Lib.hid hF
            clear hF
            go_wp2_with (go_at_call 72; (with_reducible refine (kp _ hO.cells.ints).mono ?_); rintro e w2 ⟨a2, cc2, rfl, hO2, hB2⟩; clear kp)
            go_roundw
            case rel => exact ⟨x + 1, by omega, by omega, by go_num, by rw [← HP.out]; exact ⟨_, _, rfl, hO2.mono hB.size (Nat.le_refl _)⟩, hB.trans (hB2.mono hB.size)⟩
            case measure => simp [intOf]; omega
          · have HEE := Lib.hid (HE.out x (by omega) (by omega))
            go_wp2
            go_roundw
            case rel => exact ⟨j + 1, by omega, by go_num, by rw [← HEE.out]; exact hA, hB⟩
            case measure => simp [intOf]; omega
      · obtain rfl : j = m - 1 := by omega
        go_wp2
        go_returns
        exact RowOf.ret hA hB0 hB

set_option maxHeartbeats 4000000 in
theorem impl_MissedSwitches (a : Option Addr) (n c : Nat) (Z : Nat → Int) (a' : Option Addr) (m c' : Nat) (S T : Nat → Int) (w : World) (hz : IntsAt w a n Z) (hy : PassAt w a' m S T) (hn : n ≤ 1048576) (hm : m ≤ 1048576) :
    Calls Try.prog 39 #[.slice a n c, .slice a' m c'] w (RetInts (okL (passOk Z n S T m) (missA S n m)) (okC (passOk Z n S T m) 1) w) := by
  have kv := impl_ValidPassings a n c Z a' m c' S T w hz hy hn hm
  cases h : passOk Z n S T m
  · rw [h] at kv
    rw [okL_no, okC_no]
    clear h
    go_enter Try.func39, Try.ntmps39
    go_wp2_with (go_at_call 21; (with_reducible refine (kv).mono ?_); rintro e w' ⟨rfl, hb⟩; obtain ⟨hc, hf⟩ := bcell hb; have hz : w.heap.size ≤ w'.heap.size := (by have := hb.size; (try simp at this); omega); have hB : Below w.heap.size w w' := Below.trans (by go_grown) (hb.mono (by go_size)))
    go_returns
    exact ret_none (by go_grown)
  · rw [h] at kv
    rw [okL_yes, okC_yes]
    obtain ⟨hr, h16, hg, h32⟩ := passOk_parts h
    have hs := fun k h => goodP_at (k := k) hg h
    have HS := Lib.hid hs
    have hd := fun k h => (goodP_next (k := k) hg h).2
    have HD := Lib.hid hd
    clear hr hg h hs hd
    go_enter Try.func39, Try.ntmps39
    go_wp2_with fail
    (with_reducible refine kv.mono ?_)
    rintro e w0 ⟨rfl, hB0⟩
    replace hy := hy.below hB0
    clear kv hz
    have ks := fun W => impl_size_int64 a n c W hn
    go_wp2_with (go_at_call 53; (with_reducible refine (ks _).mono ?_); rintro e w' ⟨rfl, rfl⟩)
    go_loopw [6, 17] (fun o i wr => ∃ s : Nat, s ≤ n ∧ i = .int .i64 s ∧ AppOf w0.heap.size wr o (filt (missB S (m - 1)) s) ∧ Below w0.heap.size w0 wr) (fun _ i _ => n - (intOf i).toNat)
    case atStart => exact ⟨0, by omega, rfl, AppOf.nil _ _, Below.refl _ _⟩
    case round =>
      obtain ⟨s, hsn, rfl, hA, hB⟩ := hrel
      have hq := hB.size
      have hlen : (filt (missB S (m - 1)) s).length ≤ 16777216 := Nat.le_trans (filt_len _ _) (by omega)
      by_cases hlts : s < n
      · have HY := Lib.hid (fun h => filt_yes (q := missB S (m - 1)) (n := s) h)
        have HN := Lib.hid (fun h => filt_no (q := missB S (m - 1)) (n := s) h)
        generalize filt (missB S (m - 1)) s = A at *
        obtain ⟨wo, ewo⟩ : ∃ wo : World, wo = wr := ⟨_, rfl⟩
        subst ewo
        go_wp2
        go_loopw [6, 8] (fun o i wi => ∃ j : Nat, (j = 0 ∨ j + 1 ≤ m) ∧ i = .int .i64 ((j : Int) + 1) ∧ any (betw S s) j = false ∧ AppOf w0.heap.size wi o A ∧ Below w0.heap.size w0 wi) (fun _ i _ => m - (intOf i).toNat)
        case atStart => exact ⟨0, by omega, rfl, any_false.2 (fun _ h => absurd h (by omega)), hA, hB⟩
        case round =>
          clear hA hB hq
          obtain ⟨j, hj, rfl, hno, hA, hB⟩ := hrel
          have hq := hB.size
          by_cases hlt : j + 1 < m
          · obtain ⟨b, o, rfl, hb, hc⟩ := hy (by omega)
            have c0 := (hB.cell (p := ⟨b, o + j * 2, none⟩) hb).trans (hc j (by omega)).1
            have c1 := (hB.cell (p := ⟨b, o + (j + 1) * 2, none⟩) hb).trans (hc (j + 1) hlt).1
            have hb1 : b < wr.heap.size := Nat.lt_of_lt_of_le hb hB.size
            have i0 : (0 : Int) ≤ (j : Int) := by omega
            have i1 : (j : Int) + 1 < (m : Int) := by omega
            have i2 : (0 : Int) ≤ (j : Int) + 1 := by omega
            have i3 : (j : Int) < (m : Int) := by omega
            have i5 : ((j : Int) + 1).toNat = j + 1 := by omega
            have i6 : (j : Int) + 1 - 1 = (j : Int) := by omega
            have i7 : IntKind.i64.wrap (j : Int) = (j : Int) := IntWalk.i64_in _ (by omega)
            have hbt : betw S s j = (decide (min (S j) (S (j + 1)) < (s : Int)) && decide ((s : Int) < max (S j) (S (j + 1)))) := rfl
            clear hc hj
            have hd := HD.out j hlt
            rcases (show S j < S (j + 1) ∨ S (j + 1) < S j by omega) with d1 | d1
            · have d2 : ¬ S (j + 1) < S j := by omega
              have hlo : min (S j) (S (j + 1)) = S j := by omega
              have hhi : max (S j) (S (j + 1)) = S (j + 1) := by omega
              rw [hlo, hhi] at hbt
              clear hlo hhi
              by_cases t1 : S j < (s : Int)
              · by_cases t2 : (s : Int) < S (j + 1)
                · have HE := Lib.hid (HY.out (show any (betw S s) (m - 1) = true from any_true.2 ⟨j, by omega, by rw [hbt, decide_eq_true t1, decide_eq_true t2]; rfl⟩))
                  have q1 : decide (S j < (s : Int)) = true := decide_eq_true t1
                  have q2 : decide ((s : Int) < S (j + 1)) = true := decide_eq_true t2
                  clear hbt hno
                  go_wp2
                  (refine wp_region_cls (by kernel_rfl) (by kernel_rfl) ?_; (repeat (go_big_quiet_step (fail))); refine wpQuiet_nil ?_; rintro _ ⟨u, rfl⟩; have hb := u.below; replace hB := hB.trans (hb.mono hB.size); replace hA := hA.below hb; generalize u.w = w' at *; obtain ⟨hc, hf, hs⟩ := bkeep hb; have hq' := hb.size; have hq := hB.size; have hb' := hb; clear hb)
                  go_wp2_with (at_builtin; refine app_int _ rfl _ _ rfl w0.heap.size _ _ rfl (hA.alloc _) w'.heap.size 1 (s : Int) rfl (by go_cell) hlen (by simp; omega) ?_; intro v' w1 hA' hw1)
                  go_roundw
                  case rel => exact ⟨s + 1, by omega, by go_num, by rw [HE.out]; exact hA', (Below.alloc hB hq _).trans hw1⟩
                  case measure => simp [intOf]; omega
                · have HN2 := Lib.hid (show any (betw S s) (j + 1) = false by rw [any_succ, hno, hbt, decide_eq_false t2]; simp)
                  have q1 : decide (S j < (s : Int)) = true := decide_eq_true t1
                  have q2 : decide ((s : Int) < S (j + 1)) = false := decide_eq_false t2
                  clear hbt hno
                  go_wp2
                  (refine wp_region_cls (by kernel_rfl) (by kernel_rfl) ?_; (repeat (go_big_quiet_step (fail))); refine wpQuiet_nil ?_; rintro _ ⟨u, rfl⟩; have hb := u.below; replace hB := hB.trans (hb.mono hB.size); replace hA := hA.below hb; generalize u.w = w' at *; obtain ⟨hc, hf, hs⟩ := bkeep hb; have hq' := hb.size; have hq := hB.size; have hb' := hb; clear hb)
                  go_wp2
                  go_roundw
                  case rel => exact ⟨j + 1, by omega, by go_num, HN2.out, hA, hB⟩
                  case measure => simp [intOf]; omega
              · have HN2 := Lib.hid (show any (betw S s) (j + 1) = false by rw [any_succ, hno, hbt, decide_eq_false t1]; rfl)
                have q1 : decide (S j < (s : Int)) = false := decide_eq_false t1
                clear hbt hno
                go_wp2
                (refine wp_region_cls (by kernel_rfl) (by kernel_rfl) ?_; (repeat (go_big_quiet_step (fail))); refine wpQuiet_nil ?_; rintro _ ⟨u, rfl⟩; have hb := u.below; replace hB := hB.trans (hb.mono hB.size); replace hA := hA.below hb; generalize u.w = w' at *; obtain ⟨hc, hf, hs⟩ := bkeep hb; have hq' := hb.size; have hq := hB.size; have hb' := hb; clear hb)
                go_wp2
                go_roundw
                case rel => exact ⟨j + 1, by omega, by go_num, HN2.out, hA, hB⟩
                case measure => simp [intOf]; omega
            · have d2 : ¬ S j < S (j + 1) := by omega
              have hlo : min (S j) (S (j + 1)) = S (j + 1) := by omega
              have hhi : max (S j) (S (j + 1)) = S j := by omega
              rw [hlo, hhi] at hbt
              clear hlo hhi
              by_cases t1 : S (j + 1) < (s : Int)
              · by_cases t2 : (s : Int) < S j
                · have HE := Lib.hid (HY.out (show any (betw S s) (m - 1) = true from any_true.2 ⟨j, by omega, by rw [hbt, decide_eq_true t1, decide_eq_true t2]; rfl⟩))
                  have q1 : decide (S (j + 1) < (s : Int)) = true := decide_eq_true t1
                  have q2 : decide ((s : Int) < S j) = true := decide_eq_true t2
                  clear hbt hno
                  go_wp2
                  (refine wp_region_cls (by kernel_rfl) (by kernel_rfl) ?_; (repeat (go_big_quiet_step (fail))); refine wpQuiet_nil ?_; rintro _ ⟨u, rfl⟩; have hb := u.below; replace hB := hB.trans (hb.mono hB.size); replace hA := hA.below hb; generalize u.w = w' at *; obtain ⟨hc, hf, hs⟩ := bkeep hb; have hq' := hb.size; have hq := hB.size; have hb' := hb; clear hb)
                  go_wp2_with (at_builtin; refine app_int _ rfl _ _ rfl w0.heap.size _ _ rfl (hA.alloc _) w'.heap.size 1 (s : Int) rfl (by go_cell) hlen (by simp; omega) ?_; intro v' w1 hA' hw1)
                  go_roundw
                  case rel => exact ⟨s + 1, by omega, by go_num, by rw [HE.out]; exact hA', (Below.alloc hB hq _).trans hw1⟩
                  case measure => simp [intOf]; omega
                · have HN2 := Lib.hid (show any (betw S s) (j + 1) = false by rw [any_succ, hno, hbt, decide_eq_false t2]; simp)
                  have q1 : decide (S (j + 1) < (s : Int)) = true := decide_eq_true t1
                  have q2 : decide ((s : Int) < S j) = false := decide_eq_false t2
                  clear hbt hno
                  go_wp2
                  (refine wp_region_cls (by kernel_rfl) (by kernel_rfl) ?_; (repeat (go_big_quiet_step (fail))); refine wpQuiet_nil ?_; rintro _ ⟨u, rfl⟩; have hb := u.below; replace hB := hB.trans (hb.mono hB.size); replace hA := hA.below hb; generalize u.w = w' at *; obtain ⟨hc, hf, hs⟩ := bkeep hb; have hq' := hb.size; have hq := hB.size; have hb' := hb; clear hb)
                  go_wp2
                  go_roundw
                  case rel => exact ⟨j + 1, by omega, by go_num, HN2.out, hA, hB⟩
                  case measure => simp [intOf]; omega
              · have HN2 := Lib.hid (show any (betw S s) (j + 1) = false by rw [any_succ, hno, hbt, decide_eq_false t1]; rfl)
                have q1 : decide (S (j + 1) < (s : Int)) = false := decide_eq_false t1
                clear hbt hno
                go_wp2
                (refine wp_region_cls (by kernel_rfl) (by kernel_rfl) ?_; (repeat (go_big_quiet_step (fail))); refine wpQuiet_nil ?_; rintro _ ⟨u, rfl⟩; have hb := u.below; replace hB := hB.trans (hb.mono hB.size); replace hA := hA.below hb; generalize u.w = w' at *; obtain ⟨hc, hf, hs⟩ := bkeep hb; have hq' := hb.size; have hq := hB.size; have hb' := hb; clear hb)
                go_wp2
                go_roundw
                case rel => exact ⟨j + 1, by omega, by go_num, HN2.out, hA, hB⟩
                case measure => simp [intOf]; omega
          · obtain rfl : j = m - 1 := by omega
            have HE := Lib.hid (HN.out hno)
            go_wp2
            go_roundw
            case rel => exact ⟨s + 1, by omega, by go_num, by rw [HE.out]; exact hA, hB⟩
            case measure => simp [intOf]; omega
      · obtain rfl : s = n := by omega
        go_wp2
        go_returns
        exact hA.ret0 hB0 hB

end Go.Proofs.Ytlkcnflhofophaa
