/-
  Contracts: switches that were missed.
-/
import Derived.Test.YtdhjnpjemaofoaaDoorKH
import Derived.Test.YtdhjnpjemaofoaaDoorAp
import Derived.Test.YtdhjnpjemaofoaaDoorPv
namespace Go.Proofs.YtdhjnpjemaofoaaDoor
open Go.RowKit
set_option linter.unusedVariables false
set_option linter.unusedSimpArgs false


set_option maxHeartbeats 4000000 in
theorem impl_MissedSwitches (a : Option Addr) (n c : Nat) (Z : Nat → Int) (a' : Option Addr) (m c' : Nat) (S T : Nat → Int) (w : World) (hz : IntsAt w a n Z) (hy : PassAt w a' m S T) (hn : n ≤ 1048576) (hm : m ≤ 1048576) :
    Calls Tryd.prog 21 #[.slice a n c, .slice a' m c'] w (RetInts (okL (passOk Z n S T m) (missA S n m)) (okC (passOk Z n S T m) 1) w) := by
  have kv := impl_ValidPassings a n c Z a' m c' S T w hz hy hn hm
  cases h : passOk Z n S T m
  · rw [h] at kv
    rw [okL_no, okC_no]
    clear h
    go_enter Tryd.func21, Tryd.ntmps21
    go_wp2_with (go_at_call 23; (with_reducible refine (kv).mono ?_); rintro e w' ⟨rfl, hb⟩; obtain ⟨hc, hf⟩ := bcell hb; have hz : w.heap.size ≤ w'.heap.size := (by have := hb.size; (try simp at this); omega); have hB : Below w.heap.size w w' := Below.trans (by go_grown) (hb.mono (by go_size)))
    go_returns
    exact ret_none (by go_grown)
  · rw [h] at kv
    rw [okL_yes, okC_yes]
    obtain ⟨hr, h16, hg, h32⟩ := passOk_parts h
    have hs := fun k h => goodP_at (k := k) hg h
    have HS := Lib.hid hs
    have hd := fun k h => (goodP_next (k := k) hg h).2
    have HD := Lib.hid hd
    clear hr hg h hs hd
    go_enter Tryd.func21, Tryd.ntmps21
    go_wp2_with fail
    (with_reducible refine kv.mono ?_)
    rintro e w0 ⟨rfl, hB0⟩
    replace hy := hy.below hB0
    clear kv hz
    have ks := fun W => impl_size_int64 a n c W hn
    go_wp2_with (go_at_call 50; (with_reducible refine (ks _).mono ?_); rintro e w' ⟨rfl, rfl⟩)
    go_loopw [6, 17] (fun o i wr => ∃ s : Nat, s ≤ n ∧ i = .int .i64 s ∧ AppOf w0.heap.size wr o (filt (missB S (m - 1)) s) ∧ Below w0.heap.size w0 wr) (fun _ i _ => n - (intOf i).toNat)
    case atStart => exact ⟨0, by omega, rfl, AppOf.nil _ _, Below.refl _ _⟩
    case round =>
      obtain ⟨s, hsn, rfl, hA, hB⟩ := hrel
      have hq := hB.size
      have hlen : (filt (missB S (m - 1)) s).length ≤ 16777216 := Nat.le_trans (filt_len _ _) (by omega)
      by_cases hlts : s < n
      · have HY := Lib.hid (fun h => filt_yes (q := missB S (m - 1)) (n := s) h)
        have HN := Lib.hid (fun h => filt_no (q := missB S (m - 1)) (n := s) h)
        generalize filt (missB S (m - 1)) s = A at *
        obtain ⟨wo, ewo⟩ : ∃ wo : World, wo = wr := ⟨_, rfl⟩
        subst ewo
        go_wp2
        go_loopw [6, 8] (fun o i wi => ∃ j : Nat, (j = 0 ∨ j + 1 ≤ m) ∧ i = .int .i64 ((j : Int) + 1) ∧ any (betw S s) j = false ∧ AppOf w0.heap.size wi o A ∧ Below w0.heap.size w0 wi) (fun _ i _ => m - (intOf i).toNat)
        case atStart => exact ⟨0, by omega, rfl, any_false.2 (fun _ h => absurd h (by omega)), hA, hB⟩
        case round =>
          clear hA hB hq
          obtain ⟨j, hj, rfl, hno, hA, hB⟩ := hrel
          have hq := hB.size
          by_cases hlt : j + 1 < m
          · obtain ⟨b, o, rfl, hb, hc⟩ := hy (by omega)
            have c0 := (hB.cell (p := ⟨b, o + j * 2, none⟩) hb).trans (hc j (by omega)).1
            have c1 := (hB.cell (p := ⟨b, o + (j + 1) * 2, none⟩) hb).trans (hc (j + 1) hlt).1
            have hb1 : b < wr.heap.size := Nat.lt_of_lt_of_le hb hB.size
            have i0 : (0 : Int) ≤ (j : Int) := by omega
            have i1 : (j : Int) + 1 < (m : Int) := by omega
            have i2 : (0 : Int) ≤ (j : Int) + 1 := by omega
            have i3 : (j : Int) < (m : Int) := by omega
            have i5 : ((j : Int) + 1).toNat = j + 1 := by omega
            have i6 : (j : Int) + 1 - 1 = (j : Int) := by omega
            have i7 : IntKind.i64.wrap (j : Int) = (j : Int) := IntWalk.i64_in _ (by omega)
            have hbt : betw S s j = (decide (min (S j) (S (j + 1)) < (s : Int)) && decide ((s : Int) < max (S j) (S (j + 1)))) := rfl
            clear hc hj
            have hd := HD.out j hlt
            rcases (show S j < S (j + 1) ∨ S (j + 1) < S j by omega) with d1 | d1
            · have d2 : ¬ S (j + 1) < S j := by omega
              have hlo : min (S j) (S (j + 1)) = S j := by omega
              have hhi : max (S j) (S (j + 1)) = S (j + 1) := by omega
              rw [hlo, hhi] at hbt
              clear hlo hhi
              by_cases t1 : S j < (s : Int)
              · by_cases t2 : (s : Int) < S (j + 1)
                · have HE := Lib.hid (HY.out (show any (betw S s) (m - 1) = true from any_true.2 ⟨j, by omega, by rw [hbt, decide_eq_true t1, decide_eq_true t2]; rfl⟩))
                  have q1 : decide (S j < (s : Int)) = true := decide_eq_true t1
                  have q2 : decide ((s : Int) < S (j + 1)) = true := decide_eq_true t2
                  clear hbt hno
                  go_wp2
                  (refine wp_region_cls (by kernel_rfl) (by kernel_rfl) ?_; (repeat (go_big_quiet_step (fail))); refine wpQuiet_nil ?_; rintro _ ⟨u, rfl⟩; have hb := u.below; replace hB := hB.trans (hb.mono hB.size); replace hA := hA.below hb; generalize u.w = w' at *; obtain ⟨hc, hf, hs⟩ := bkeep hb; have hq' := hb.size; have hq := hB.size; have hb' := hb; clear hb)
                  go_wp2_with (at_builtin; refine app_int _ rfl _ _ rfl w0.heap.size _ _ rfl (hA.alloc _) w'.heap.size 1 (s : Int) rfl (by go_cell) hlen (by simp; omega) ?_; intro v' w1 hA' hw1)
                  go_roundw
                  case rel => exact ⟨s + 1, by omega, by go_num, by rw [HE.out]; exact hA', (Below.alloc hB hq _).trans hw1⟩
                  case measure => simp [intOf]; omega
                · have HN2 := Lib.hid (show any (betw S s) (j + 1) = false by rw [any_succ, hno, hbt, decide_eq_false t2]; simp)
                  have q1 : decide (S j < (s : Int)) = true := decide_eq_true t1
                  have q2 : decide ((s : Int) < S (j + 1)) = false := decide_eq_false t2
                  clear hbt hno
                  go_wp2
                  (refine wp_region_cls (by kernel_rfl) (by kernel_rfl) ?_; (repeat (go_big_quiet_step (fail))); refine wpQuiet_nil ?_; rintro _ ⟨u, rfl⟩; have hb := u.below; replace hB := hB.trans (hb.mono hB.size); replace hA := hA.below hb; generalize u.w = w' at *; obtain ⟨hc, hf, hs⟩ := bkeep hb; have hq' := hb.size; have hq := hB.size; have hb' := hb; clear hb)
                  go_wp2
                  go_roundw
                  case rel => exact ⟨j + 1, by omega, by go_num, HN2.out, hA, hB⟩
                  case measure => simp [intOf]; omega
              · have HN2 := Lib.hid (show any (betw S s) (j + 1) = false by rw [any_succ, hno, hbt, decide_eq_false t1]; rfl)
                have q1 : decide (S j < (s : Int)) = false := decide_eq_false t1
                clear hbt hno
                go_wp2
                (refine wp_region_cls (by kernel_rfl) (by kernel_rfl) ?_; (repeat (go_big_quiet_step (fail))); refine wpQuiet_nil ?_; rintro _ ⟨u, rfl⟩; have hb := u.below; replace hB := hB.trans (hb.mono hB.size); replace hA := hA.below hb; generalize u.w = w' at *; obtain ⟨hc, hf, hs⟩ := bkeep hb; have hq' := hb.size; have hq := hB.size; have hb' := hb; clear hb)
                go_wp2
                go_roundw
                case rel => exact ⟨j + 1, by omega, by go_num, HN2.out, hA, hB⟩
                case measure => simp [intOf]; omega
            · have d2 : ¬ S j < S (j + 1) := by omega
              have hlo : min (S j) (S (j + 1)) = S (j + 1) := by omega
              have hhi : max (S j) (S (j + 1)) = S j := by omega
              rw [hlo, hhi] at hbt
              clear hlo hhi
              by_cases t1 : S (j + 1) < (s : Int)
              · by_cases t2 : (s : Int) < S j
                · have HE := Lib.hid (HY.out (show any (betw S s) (m - 1) = true from any_true.2 ⟨j, by omega, by rw [hbt, decide_eq_true t1, decide_eq_true t2]; rfl⟩))
                  have q1 : decide (S (j + 1) < (s : Int)) = true := decide_eq_true t1
                  have q2 : decide ((s : Int) < S j) = true := decide_eq_true t2
                  clear hbt hno
                  go_wp2
                  (refine wp_region_cls (by kernel_rfl) (by kernel_rfl) ?_; (repeat (go_big_quiet_step (fail))); refine wpQuiet_nil ?_; rintro _ ⟨u, rfl⟩; have hb := u.below; replace hB := hB.trans (hb.mono hB.size); replace hA := hA.below hb; generalize u.w = w' at *; obtain ⟨hc, hf, hs⟩ := bkeep hb; have hq' := hb.size; have hq := hB.size; have hb' := hb; clear hb)
                  go_wp2_with (at_builtin; refine app_int _ rfl _ _ rfl w0.heap.size _ _ rfl (hA.alloc _) w'.heap.size 1 (s : Int) rfl (by go_cell) hlen (by simp; omega) ?_; intro v' w1 hA' hw1)
                  go_roundw
                  case rel => exact ⟨s + 1, by omega, by go_num, by rw [HE.out]; exact hA', (Below.alloc hB hq _).trans hw1⟩
                  case measure => simp [intOf]; omega
                · have HN2 := Lib.hid (show any (betw S s) (j + 1) = false by rw [any_succ, hno, hbt, decide_eq_false t2]; simp)
                  have q1 : decide (S (j + 1) < (s : Int)) = true := decide_eq_true t1
                  have q2 : decide ((s : Int) < S j) = false := decide_eq_false t2
                  clear hbt hno
                  go_wp2
                  (refine wp_region_cls (by kernel_rfl) (by kernel_rfl) ?_; (repeat (go_big_quiet_step (fail))); refine wpQuiet_nil ?_; rintro _ ⟨u, rfl⟩; have hb := u.below; replace hB := hB.trans (hb.mono hB.size); replace hA := hA.below hb; generalize u.w = w' at *; obtain ⟨hc, hf, hs⟩ := bkeep hb; have hq' := hb.size; have hq := hB.size; have hb' := hb; clear hb)
                  go_wp2
                  go_roundw
                  case rel => exact ⟨j + 1, by omega, by go_num, HN2.out, hA, hB⟩
                  case measure => simp [intOf]; omega
              · have HN2 := Lib.hid (show any (betw S s) (j + 1) = false by rw [any_succ, hno, hbt, decide_eq_false t1]; rfl)
                have q1 : decide (S (j + 1) < (s : Int)) = false := decide_eq_false t1
                clear hbt hno
                go_wp2
                (refine wp_region_cls (by kernel_rfl) (by kernel_rfl) ?_; (repeat (go_big_quiet_step (fail))); refine wpQuiet_nil ?_; rintro _ ⟨u, rfl⟩; have hb := u.below; replace hB := hB.trans (hb.mono hB.size); replace hA := hA.below hb; generalize u.w = w' at *; obtain ⟨hc, hf, hs⟩ := bkeep hb; have hq' := hb.size; have hq := hB.size; have hb' := hb; clear hb)
                go_wp2
                go_roundw
                case rel => exact ⟨j + 1, by omega, by go_num, HN2.out, hA, hB⟩
                case measure => simp [intOf]; omega
          · obtain rfl : j = m - 1 := by omega
            have HE := Lib.hid (HN.out hno)
            go_wp2
            go_roundw
            case rel => exact ⟨s + 1, by omega, by go_num, by rw [HE.out]; exact hA, hB⟩
            case measure => simp [intOf]; omega
      · obtain rfl : s = n := by omega
        go_wp2
        go_returns
        exact hA.ret0 hB0 hB

end Go.Proofs.YtdhjnpjemaofoaaDoor
