/-
  Contracts: events one after another.
-/
import Derived.Test.YtccejaneammplaaKN
import Derived.Test.YtccejaneammplaaKM
import Derived.Test.YtccejaneammplaaKI
import Derived.Test.YtccejaneammplaaPy
import Derived.Deep.DeepCutAuto
namespace Go.Proofs.Ytccejaneammplaa
open Go.RowKit
set_option linter.unusedVariables false
set_option linter.unusedSimpArgs false


set_option maxHeartbeats 4000000 in
theorem impl_run (m : Int) (o a b e : Bool) (A : Option Addr) (n c : Nat) (Z : Nat → Int) (w : World) (hZ : IntsAt w A n Z) (hn : n ≤ 1048576) :
    Calls Try.prog 30 #[.agg #[.int .i64 m, .bool o, .bool a, .bool b, .bool e], .slice A n c] w fun e' w' => e' = .returned (.tuple #[(runS ⟨m, o, a, b, e⟩ Z n).val, .int .i64 (runR ⟨m, o, a, b, e⟩ Z n), .int .i64 (runD ⟨m, o, a, b, e⟩ Z n), .int .i64 (runC ⟨m, o, a, b, e⟩ Z n)]) ∧ Below w.heap.size w w' := by
  have kv := fun W => impl_ValidControl m o a b e W
  have kc := fun W h => impl_run_1_contains A n c Z W h hn
  rw [show any (fun j => !inB (Z j) 1 9) n = badEv Z n from rfl] at kc
  cases h1 : inB m 0 4
  · obtain ⟨e1, e2, e3, e4⟩ := run_x (run_c1 (x := ⟨m, o, a, b, e⟩) (Z := Z) (n := n) h1) (by decide)
    rw [e1, e2, e3, e4]
    rw [h1] at kv
    clear e1 e2 e3 e4 h1
    go_enter Try.func30, Try.ntmps30
    go_wp2_with (go_at_call 20; (with_reducible refine (kv _).mono ?_); rintro e w' ⟨rfl, hb⟩; obtain ⟨hc, hf⟩ := bcell hb; have hz : w.heap.size < w'.heap.size := (by have := hb.size; (try simp at this); omega); have hz1 : w.heap.size + 1 < w'.heap.size := (by have := hb.size; (try simp at this); omega); have hB : Below w.heap.size w w' := Below.trans (by go_grown) (hb.mono (by go_size)))
    refine bodyPost_ret (by simp [results, Try.results30, go_sem, *]; try rfl) rfl ?_
    exact ⟨rfl, by go_grown⟩
  · rw [h1] at kv
    cases h2 : badEv Z n
    · rw [h2] at kc
      by_cases h3 : n ≤ 64
      · obtain ⟨e1, e2, e3, e4⟩ := run_ok (run_c0 (x := ⟨m, o, a, b, e⟩) (Z := Z) (n := n) h1 h2 h3)
        rw [e1, e2, e3, e4]
        have hev := fun j h => inB_true.1 (badEv_at (j := j) h2 h)
        have HV := Lib.hid hev
        clear e1 e2 e3 e4 h1 h2 hev
        go_enter Try.func30, Try.ntmps30
        go_wp2_with fail
        refine (kv _).mono ?_
        rintro e' w0 ⟨rfl, hb⟩
        have hO := (StAt.made w 25 m o a b e).below (Below.alloc (Below.refl _ _) (Nat.le_refl _) (Obj.cells #[.int .i64 0, .bool false, .bool false, .bool false, .bool false] 25))
        have hR := StAt.made (w.alloc (Obj.cells #[.int .i64 m, .bool o, .bool a, .bool b, .bool e] 25)) 25 0 false false false false
        rw [show (w.alloc (Obj.cells #[.int .i64 m, .bool o, .bool a, .bool b, .bool e] 25)).heap.size = w.heap.size + 1 by simp] at hR
        replace hO := hO.below hb
        replace hR := hR.below hb
        have hB : Below w.heap.size w w0 := Below.trans (by go_grown) (hb.mono (by simp; omega))
        clear hb
        generalize hg : w.heap.size = g at *
        have HG := Lib.hid hg
        clear hg
        have hzr := hZ.below (by rw [HG.out]; exact hB)
        go_wp2_with (go_at_call 36; (with_reducible refine (kc _ hzr).mono ?_); rintro e' w' ⟨rfl, rfl⟩)
        have hn64 : ¬ (64 : Int) < (n : Int) := by omega
        go_wp2
        go_loopw [8, 9, 28] (fun r d i wr => ∃ k : Nat, k ≤ n ∧ i = .int .i64 k ∧ r = .int .i64 (refE ⟨m, o, a, b, e⟩ Z k : Int) ∧ d = .int .i64 (rideE ⟨m, o, a, b, e⟩ Z k : Int) ∧ StAt wr g (stE ⟨m, o, a, b, e⟩ Z k) ∧ StAt wr (g + 1) ⟨0, false, false, false, false⟩ ∧ Below g w wr) (fun _ _ i _ => n - (intOf i).toNat)
        case atStart => exact ⟨0, by omega, rfl, rfl, rfl, hO, hR, hB⟩
        case round =>
          clear hO hR hB hzr
          obtain ⟨k, hk, rfl, rfl, rfl, hO, hR, hB⟩ := hrel
          have hq := hB.size
          have l1 := refE_le ⟨m, o, a, b, e⟩ Z k
          have l2 := rideE_le ⟨m, o, a, b, e⟩ Z k
          have hl := hO.lt
          by_cases hlt : k < n
          · obtain ⟨b', o', rfl, hb', hc⟩ := hZ (by omega)
            rw [HG.out] at hb'
            have ck := (hB.cell (p := ⟨b', o' + k, none⟩) hb').trans (hc k hlt)
            obtain ⟨v1, v2⟩ := HV.out k hlt
            have hno := fun h => run_no (x := ⟨m, o, a, b, e⟩) (Z := Z) (k := k) h
            have hyes := fun h => run_yes (x := ⟨m, o, a, b, e⟩) (Z := Z) (k := k) h
            clear hc
            generalize refE ⟨m, o, a, b, e⟩ Z k = rf at *
            generalize rideE ⟨m, o, a, b, e⟩ Z k = rd at *
            generalize stE ⟨m, o, a, b, e⟩ Z k = y at *
            obtain ⟨y0, y1, y2, y3, y4⟩ := y
            have kA := fun W => impl_isAllowed y0 y1 y2 y3 y4 (Z k) W
            have kF := fun W => impl_after y0 y1 y2 y3 y4 (Z k) W
            generalize Z k = ev at *
            have d0 := hO.c0
            have d1 := hO.c1
            have d2 := hO.c2
            have d3 := hO.c3
            have d4 := hO.c4
            dsimp only at d0 d1 d2 d3 d4
            cases hal : allowed ⟨y0, y1, y2, y3, y4⟩ ev
            · rw [hal] at kA
              obtain ⟨e1, e2, e3⟩ := hno hal
              have E1 := Lib.hid e1
              have E2 := Lib.hid e2
              have E3 := Lib.hid e3
              clear hno hyes e1 e2 e3 hal
              go_wp2_with (go_at_call 24; (with_reducible refine (kA _).mono ?_); rintro e' w1 ⟨rfl, hb⟩; replace hO := hO.below hb; replace hR := hR.below hb; replace hB := hB.trans (hb.mono (Nat.le_of_lt hl)); replace hl := hO.lt; have d0 := hO.c0; have d1 := hO.c1; have d2 := hO.c2; have d3 := hO.c3; have d4 := hO.c4; clear hb)
              go_roundw
              case rel => exact ⟨k + 1, by omega, by go_num, by rw [E2.out]; go_num, by rw [E3.out], by rw [E1.out]; exact hO, hR, hB⟩
              case measure => simp [intOf]; omega
            · rw [hal] at kA
              obtain ⟨e1, e2, e3⟩ := hyes hal
              have E1 := Lib.hid e1
              have E2 := Lib.hid e2
              clear hno hyes e1 e2 hal
              generalize after ⟨y0, y1, y2, y3, y4⟩ ev = R at *
              obtain ⟨r0, r1, r2, r3, r4⟩ := R
              simp only [St.val] at kF
              cases h7 : (ev == 7)
              · rw [h7, if_neg (by decide)] at e3
                have E3 := Lib.hid e3
                clear e3
                go_wp2_with (first | (go_at_call 24; (with_reducible refine (kA _).mono ?_); rintro e' w1 ⟨rfl, hb⟩; replace hO := hO.below hb; replace hR := hR.below hb; replace hB := hB.trans (hb.mono (Nat.le_of_lt hl)); replace hl := hO.lt; have d0 := hO.c0; have d1 := hO.c1; have d2 := hO.c2; have d3 := hO.c3; have d4 := hO.c4; clear hb) | (go_at_call 25; (with_reducible refine (kF _).mono ?_); rintro e' w2 ⟨rfl, hb⟩; replace hO := hO.below hb; replace hR := hR.below hb; replace hB := hB.trans (hb.mono (Nat.le_of_lt hl)); replace hl := hO.lt; have d0 := hO.c0; have d1 := hO.c1; have d2 := hO.c2; have d3 := hO.c3; have d4 := hO.c4; have f0 := hO.fr (show 0 < 5 by decide); have f1 := hO.fr (show 1 < 5 by decide); have f2 := hO.fr (show 2 < 5 by decide); have f3 := hO.fr (show 3 < 5 by decide); have f4 := hO.fr (show 4 < 5 by decide); clear hb))
                go_roundw
                case rel => exact ⟨k + 1, by omega, by go_num, by rw [E2.out], by rw [E3.out]; go_num, by rw [E1.out]; exact hO.put r0 r1 r2 r3 r4, hR.keep (keep_put _ g _ _ _ _ _) (by omega), hB.trans ((keep_put _ g _ _ _ _ _).below (Nat.le_refl _) (by omega))⟩
                case measure => simp [intOf]; omega
              · rw [h7, if_pos rfl] at e3
                have E3 := Lib.hid e3
                clear e3
                go_wp2_with (first | (go_at_call 24; (with_reducible refine (kA _).mono ?_); rintro e' w1 ⟨rfl, hb⟩; replace hO := hO.below hb; replace hR := hR.below hb; replace hB := hB.trans (hb.mono (Nat.le_of_lt hl)); replace hl := hO.lt; have d0 := hO.c0; have d1 := hO.c1; have d2 := hO.c2; have d3 := hO.c3; have d4 := hO.c4; clear hb) | (go_at_call 25; (with_reducible refine (kF _).mono ?_); rintro e' w2 ⟨rfl, hb⟩; replace hO := hO.below hb; replace hR := hR.below hb; replace hB := hB.trans (hb.mono (Nat.le_of_lt hl)); replace hl := hO.lt; have d0 := hO.c0; have d1 := hO.c1; have d2 := hO.c2; have d3 := hO.c3; have d4 := hO.c4; have f0 := hO.fr (show 0 < 5 by decide); have f1 := hO.fr (show 1 < 5 by decide); have f2 := hO.fr (show 2 < 5 by decide); have f3 := hO.fr (show 3 < 5 by decide); have f4 := hO.fr (show 4 < 5 by decide); clear hb))
                go_roundw
                case rel => exact ⟨k + 1, by omega, by go_num, by rw [E2.out], by rw [E3.out]; go_num, by rw [E1.out]; exact hO.put r0 r1 r2 r3 r4, hR.keep (keep_put _ g _ _ _ _ _) (by omega), hB.trans ((keep_put _ g _ _ _ _ _).below (Nat.le_refl _) (by omega))⟩
                case measure => simp [intOf]; omega
          · obtain rfl : k = n := by omega
            generalize hyy : stE ⟨m, o, a, b, e⟩ Z k = y at *
            have HYY := Lib.hid hyy
            clear hyy
            obtain ⟨y0, y1, y2, y3, y4⟩ := y
            have d0 := hO.c0
            have d1 := hO.c1
            have d2 := hO.c2
            have d3 := hO.c3
            have d4 := hO.c4
            have f0 := hR.fr (show 0 < 5 by decide)
            have f1 := hR.fr (show 1 < 5 by decide)
            have f2 := hR.fr (show 2 < 5 by decide)
            have f3 := hR.fr (show 3 < 5 by decide)
            have f4 := hR.fr (show 4 < 5 by decide)
            have r0 := hR.c0
            have r1 := hR.c1
            have r2 := hR.c2
            have r3 := hR.c3
            have r4 := hR.c4
            dsimp only at d0 d1 d2 d3 d4 r0 r1 r2 r3 r4
            have hne : g ≠ g + 1 := by omega
            go_wp2
            refine bodyPost_ret (by simp [results, Try.results30, go_sem, *]; try rfl) rfl ?_
            exact ⟨by rw [HYY.out]; rfl, by rw [HG.out]; exact hB.trans ((keep_put _ (g + 1) _ _ _ _ _).below (by omega) (by omega))⟩
      · obtain ⟨e1, e2, e3, e4⟩ := run_x (run_c7 (x := ⟨m, o, a, b, e⟩) (Z := Z) (n := n) h1 h2 h3) (by decide)
        rw [e1, e2, e3, e4]
        clear e1 e2 e3 e4 h1 h2
        have hn64 : (64 : Int) < (n : Int) := by omega
        go_enter Try.func30, Try.ntmps30
        go_wp2_with (first | (go_at_call 20; (with_reducible refine (kv _).mono ?_); rintro e w' ⟨rfl, hb⟩; obtain ⟨hc, hf⟩ := bcell hb; have hz : w.heap.size < w'.heap.size := (by have := hb.size; (try simp at this); omega); have hz1 : w.heap.size + 1 < w'.heap.size := (by have := hb.size; (try simp at this); omega); have hB : Below w.heap.size w w' := Below.trans (by go_grown) (hb.mono (by go_size))) | (go_at_call 36; (with_reducible refine (kc _ (hZ.below hB)).mono ?_); rintro e' w' ⟨rfl, rfl⟩))
        refine bodyPost_ret (by simp [results, Try.results30, go_sem, *]; try rfl) rfl ?_
        exact ⟨rfl, by go_grown⟩
    · rw [h2] at kc
      obtain ⟨e1, e2, e3, e4⟩ := run_x (run_c2 (x := ⟨m, o, a, b, e⟩) (Z := Z) (n := n) h1 h2) (by decide)
      rw [e1, e2, e3, e4]
      clear e1 e2 e3 e4 h1 h2
      go_enter Try.func30, Try.ntmps30
      go_wp2_with (first | (go_at_call 20; (with_reducible refine (kv _).mono ?_); rintro e w' ⟨rfl, hb⟩; obtain ⟨hc, hf⟩ := bcell hb; have hz : w.heap.size < w'.heap.size := (by have := hb.size; (try simp at this); omega); have hz1 : w.heap.size + 1 < w'.heap.size := (by have := hb.size; (try simp at this); omega); have hB : Below w.heap.size w w' := Below.trans (by go_grown) (hb.mono (by go_size))) | (go_at_call 36; (with_reducible refine (kc _ (hZ.below hB)).mono ?_); rintro e' w' ⟨rfl, rfl⟩))
      refine bodyPost_ret (by simp [results, Try.results30, go_sem, *]; try rfl) rfl ?_
      exact ⟨rfl, by go_grown⟩

set_option maxHeartbeats 1000000 in
theorem impl_RunEvents (m : Int) (o a b e : Bool) (A : Option Addr) (n c : Nat) (Z : Nat → Int) (w : World) (hZ : IntsAt w A n Z) (hn : n ≤ 1048576) :
    Calls Try.prog 16 #[.agg #[.int .i64 m, .bool o, .bool a, .bool b, .bool e], .slice A n c] w fun e' w' => e' = .returned (.tuple #[(runS ⟨m, o, a, b, e⟩ Z n).val, .int .i64 (runR ⟨m, o, a, b, e⟩ Z n), .int .i64 (runC ⟨m, o, a, b, e⟩ Z n)]) ∧ Below w.heap.size w w' := by
  have kr := fun W h => impl_run m o a b e A n c Z W h hn
  generalize runS ⟨m, o, a, b, e⟩ Z n = R at *
  generalize runR ⟨m, o, a, b, e⟩ Z n = rr at *
  generalize runD ⟨m, o, a, b, e⟩ Z n = rd at *
  generalize runC ⟨m, o, a, b, e⟩ Z n = rc at *
  obtain ⟨r0, r1, r2, r3, r4⟩ := R
  simp only [St.val] at *
  go_enter Try.func16, Try.ntmps16
  go_wp2_with (go_at_call 30; (with_reducible refine (kr _ (hZ.below (by go_grown))).mono ?_); rintro e w' ⟨rfl, hb⟩; obtain ⟨hc, hf⟩ := bcell hb; have hz : w.heap.size < w'.heap.size := (by have := hb.size; (try simp at this); omega); have hz1 : w.heap.size + 1 < w'.heap.size := (by have := hb.size; (try simp at this); omega); have hB : Below w.heap.size w w' := Below.trans (by go_grown) (hb.mono (by go_size)))
  refine bodyPost_ret (by simp [results, Try.results16, go_sem, *]; try rfl) rfl ?_
  exact ⟨rfl, by go_grown⟩

set_option maxHeartbeats 1000000 in
theorem impl_CountRides (m : Int) (o a b e : Bool) (A : Option Addr) (n c : Nat) (Z : Nat → Int) (w : World) (hZ : IntsAt w A n Z) (hn : n ≤ 1048576) :
    Calls Try.prog 17 #[.agg #[.int .i64 m, .bool o, .bool a, .bool b, .bool e], .slice A n c] w fun e' w' => e' = .returned (.tuple #[.int .i64 (runD ⟨m, o, a, b, e⟩ Z n), .int .i64 (runC ⟨m, o, a, b, e⟩ Z n)]) ∧ Below w.heap.size w w' := by
  have kr := fun W h => impl_run m o a b e A n c Z W h hn
  generalize runS ⟨m, o, a, b, e⟩ Z n = R at *
  generalize runR ⟨m, o, a, b, e⟩ Z n = rr at *
  generalize runD ⟨m, o, a, b, e⟩ Z n = rd at *
  generalize runC ⟨m, o, a, b, e⟩ Z n = rc at *
  obtain ⟨r0, r1, r2, r3, r4⟩ := R
  simp only [St.val] at *
  go_enter Try.func17, Try.ntmps17
  go_wp2_with (go_at_call 30; (with_reducible refine (kr _ (hZ.below (by go_grown))).mono ?_); rintro e w' ⟨rfl, hb⟩; obtain ⟨hc, hf⟩ := bcell hb; have hz : w.heap.size < w'.heap.size := (by have := hb.size; (try simp at this); omega); have hB : Below w.heap.size w w' := Below.trans (by go_grown) (hb.mono (by go_size)))
  go_returns
  exact ⟨rfl, by go_grown⟩

end Go.Proofs.Ytccejaneammplaa
