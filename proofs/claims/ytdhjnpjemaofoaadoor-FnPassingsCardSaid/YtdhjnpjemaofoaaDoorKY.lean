/-
  Contracts: speeds between passings, and those that are too great.
-/
import Derived.Test.YtdhjnpjemaofoaaDoorKK
namespace Go.Proofs.YtdhjnpjemaofoaaDoor
open Go.RowKit
set_option linter.unusedVariables false
set_option linter.unusedSimpArgs false


set_option maxHeartbeats 1000000 in
theorem impl_SpeedsBetween (a : Option Addr) (n c : Nat) (Z : Nat → Int) (a' : Option Addr) (m c' : Nat) (S T : Nat → Int) (w : World) (hz : IntsAt w a n Z) (hy : PassAt w a' m S T) (hn : n ≤ 1048576) (hm : m ≤ 1048576) :
    Calls Tryd.prog 20 #[.slice a n c, .slice a' m c'] w (RetInts (okL (passOk Z n S T m) (speedsA Z S T (m - 1))) (okC (passOk Z n S T m) 1) w) := by
  have kv := impl_ValidPassings a n c Z a' m c' S T w hz hy hn hm
  cases h : passOk Z n S T m
  · rw [h] at kv
    rw [okL_no, okC_no]
    clear h
    go_enter Tryd.func20, Tryd.ntmps20
    go_wp2_with (go_at_call 23; (with_reducible refine (kv).mono ?_); rintro e w' ⟨rfl, hb⟩; obtain ⟨hc, hf⟩ := bcell hb; have hz : w.heap.size ≤ w'.heap.size := (by have := hb.size; (try simp at this); omega); have hB : Below w.heap.size w w' := Below.trans (by go_grown) (hb.mono (by go_size)))
    go_returns
    exact ret_none (by go_grown)
  · rw [h] at kv
    rw [okL_yes, okC_yes]
    have ks := fun W h1 h2 => impl_speeds a n c Z a' m c' S T W h1 h2 h
    clear h
    generalize speedsA Z S T (m - 1) = L at *
    go_enter Tryd.func20, Tryd.ntmps20
    go_wp2_with (go_at_call 23; (with_reducible refine kv.mono ?_); rintro e w0 ⟨rfl, hB0⟩; replace hy := hy.below hB0; replace hz := hz.below hB0; clear kv)
    go_wp2_with (go_at_call 49; (with_reducible refine (ks _ hz hy).mono ?_); rintro e w1 ⟨a1, c1, rfl, ho, hB1⟩; clear ks hz hy)
    go_returns
    exact ⟨_, _, rfl, ho.mono hB0.size (Nat.le_refl _), hB0.trans (hB1.mono hB0.size)⟩

set_option maxHeartbeats 1000000 in
theorem spec_SpeedsBetween (a : Option Addr) (n c : Nat) (Z : Nat → Int) (a' : Option Addr) (m c' : Nat) (S T : Nat → Int) (w : World) (hz : IntsAt w a n Z) (hy : PassAt w a' m S T) (hn : n ≤ 1048576) (hm : m ≤ 1048576) :
    Calls Tryd.prog 32 #[.slice a n c, .slice a' m c'] w (RetInts (okL (passOk Z n S T m) (speedsA Z S T (m - 1))) (okC (passOk Z n S T m) 1) w) := by
  have kv := spec_l12Ok a n c Z a' m c' S T w hz hy hn hm
  cases h : passOk Z n S T m
  · rw [h] at kv
    rw [okL_no, okC_no]
    clear h
    go_enter Tryd.func32, Tryd.ntmps32
    go_wp2_with (go_at_call 54; (with_reducible refine (kv).mono ?_); rintro e w' ⟨rfl, hb⟩; obtain ⟨hc, hf⟩ := bcell hb; have hz : w.heap.size ≤ w'.heap.size := (by have := hb.size; (try simp at this); omega); have hB : Below w.heap.size w w' := Below.trans (by go_grown) (hb.mono (by go_size)))
    go_returns
    exact ret_none (by go_grown)
  · rw [h] at kv
    rw [okL_yes, okC_yes]
    have ks := fun W h1 h2 => spec_l12Speeds a n c Z a' m c' S T W h1 h2 h
    clear h
    generalize speedsA Z S T (m - 1) = L at *
    go_enter Tryd.func32, Tryd.ntmps32
    go_wp2_with (go_at_call 54; (with_reducible refine kv.mono ?_); rintro e w0 ⟨rfl, hB0⟩; replace hy := hy.below hB0; replace hz := hz.below hB0; clear kv)
    go_wp2_with (go_at_call 61; (with_reducible refine (ks _ hz hy).mono ?_); rintro e w1 ⟨a1, c1, rfl, ho, hB1⟩; clear ks hz hy)
    go_returns
    exact ⟨_, _, rfl, ho.mono hB0.size (Nat.le_refl _), hB0.trans (hB1.mono hB0.size)⟩

set_option maxHeartbeats 1000000 in
theorem impl_TooFast (a : Option Addr) (n c : Nat) (Z : Nat → Int) (a' : Option Addr) (m c' : Nat) (S T : Nat → Int) (most : Int) (w : World) (hz : IntsAt w a n Z) (hy : PassAt w a' m S T) (hn : n ≤ 1048576) (hm : m ≤ 1048576) :
    Calls Tryd.prog 31 #[.slice a n c, .slice a' m c', .int .i64 most] w (RetInts (okL (fastOk Z n S T m most) (fastA Z S T most (m - 1))) (fastC Z n S T m most) w) := by
  have kv := impl_ValidPassings a n c Z a' m c' S T w hz hy hn hm
  have kw := fun W => impl_within most 0 100000 W
  unfold fastOk fastC
  cases h : passOk Z n S T m
  · rw [h] at kv
    rw [Bool.false_and, okL_no, if_neg (by decide)]
    clear h
    go_enter Tryd.func31, Tryd.ntmps31
    go_wp2_with (go_at_call 23; (with_reducible refine (kv).mono ?_); rintro e w' ⟨rfl, hb⟩; obtain ⟨hc, hf⟩ := bcell hb; have hz : w.heap.size ≤ w'.heap.size := (by have := hb.size; (try simp at this); omega); have hB : Below w.heap.size w w' := Below.trans (by go_grown) (hb.mono (by go_size)))
    go_returns
    exact ret_none (by go_grown)
  · rw [h] at kv
    rw [Bool.true_and, if_pos rfl]
    cases h2 : inB most 0 100000
    · rw [h2] at kw
      rw [okL_no, okC_no]
      clear h h2
      go_enter Tryd.func31, Tryd.ntmps31
      go_wp2_with (first | (go_at_call 23; (with_reducible refine (kv).mono ?_); rintro e w' ⟨rfl, hb⟩; obtain ⟨hc, hf⟩ := bcell hb; have hz : w.heap.size ≤ w'.heap.size := (by have := hb.size; (try simp at this); omega); have hB : Below w.heap.size w w' := Below.trans (by go_grown) (hb.mono (by go_size))) | (go_at_call 51; (with_reducible refine (kw _).mono ?_); rintro e w' ⟨rfl, rfl⟩))
      go_returns
      exact ret_none (by go_grown)
    · rw [h2] at kw
      rw [okL_yes, okC_yes]
      have ks := fun W h1 h2 => impl_speeds a n c Z a' m c' S T W h1 h2 h
      have hm32 := (passOk_parts h).2.2.2
      have hV : ∀ k, k < m - 1 → (speedsA Z S T (m - 1)).getD k 0 = spdV Z S T k := fun k hk => speedsA_at hk
      have hL := speedsA_len Z S T (m - 1)
      have HV := Lib.hid hV
      have HL := Lib.hid hL
      clear h h2 hV hL
      generalize speedsA Z S T (m - 1) = L at *
      go_enter Tryd.func31, Tryd.ntmps31
      go_wp2_with (first | (go_at_call 23; (with_reducible refine kv.mono ?_); rintro e w0 ⟨rfl, hB0⟩; replace hy := hy.below hB0; replace hz := hz.below hB0; clear kv) | (go_at_call 51; (with_reducible refine (kw _).mono ?_); rintro e w' ⟨rfl, rfl⟩))
      go_wp2_with (go_at_call 49; (with_reducible refine (ks _ hz hy).mono ?_); rintro e w1 ⟨a1, c1, rfl, ho, hB1⟩; clear ks hz hy kw)
      have hB2 := hB0.trans (hB1.mono hB0.size)
      have hLi : L.length = m - 1 := HL.out
      rw [hLi] at ho ⊢
      clear hLi
      go_loopw [8, 22] (fun o i wr => ∃ j : Nat, j ≤ m - 1 ∧ i = .int .i64 (j : Int) ∧ AppOf w1.heap.size wr o (fastA Z S T most j) ∧ Below w1.heap.size w1 wr) (fun _ i _ => m - 1 - (intOf i).toNat)
      case atStart => exact ⟨0, by omega, rfl, AppOf.nil _ _, Below.refl _ _⟩
      case round =>
        obtain ⟨j, hj, rfl, hA, hB⟩ := hrel
        have hq := hB.size
        have hlen : (fastA Z S T most j).length ≤ 16777216 := Nat.le_trans (accB_len _ _ _) (by omega)
        by_cases hlt : j < m - 1
        · obtain ⟨g, rfl, _, _, hg, hc⟩ := ho (by omega)
          have c0 := (hB.cell (p := ⟨g, j, none⟩) hg).trans (hc j hlt).1
          dsimp only at c0
          rw [HV.out j hlt] at c0
          have hb1 : g < wr.heap.size := Nat.lt_of_lt_of_le hg hB.size
          have i0 : (0 : Int) ≤ (j : Int) := by omega
          have i1 : (j : Int) < ((m - 1 : Nat) : Int) := by omega
          clear hc
          unfold fastA at *
          by_cases hv : most < spdV Z S T j
          · have HS := Lib.hid (accB_yes (q := fastB Z S T most) (x := fun j => (j : Int) + 1) (j := j) (by unfold fastB; exact decide_eq_true hv))
            generalize accB (fastB Z S T most) (fun j => (j : Int) + 1) j = A at *
            generalize spdV Z S T j = v at *
            go_wp2_with (at_builtin; refine app_int _ rfl _ _ rfl w1.heap.size _ _ rfl (hA.alloc _) wr.heap.size 1 ((j : Int) + 1) rfl (by go_cell) hlen (by simp; omega) ?_; intro v' w2 hA' hw1)
            go_roundw
            case rel => exact ⟨j + 1, by omega, by go_num, by rw [HS.out]; exact hA', (Below.alloc hB hq _).trans hw1⟩
            case measure => simp [intOf]; omega
          · have HS := Lib.hid (accB_no (q := fastB Z S T most) (x := fun j => (j : Int) + 1) (j := j) (by unfold fastB; exact decide_eq_false hv))
            generalize accB (fastB Z S T most) (fun j => (j : Int) + 1) j = A at *
            generalize spdV Z S T j = v at *
            go_wp2
            go_roundw
            case rel => exact ⟨j + 1, by omega, by go_num, by rw [HS.out]; exact hA, hB⟩
            case measure => simp [intOf]; omega
        · obtain rfl : j = m - 1 := by omega
          go_wp2
          go_returns
          exact hA.ret0 hB2 hB

end Go.Proofs.YtdhjnpjemaofoaaDoor
