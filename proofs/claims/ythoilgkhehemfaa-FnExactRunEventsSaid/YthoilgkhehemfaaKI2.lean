/-
  Contracts: events one after another, in the reference.
-/
import Derived.Test.YthoilgkhehemfaaKN
import Derived.Test.YthoilgkhehemfaaKM
import Derived.Test.YthoilgkhehemfaaKH2
import Derived.Test.YthoilgkhehemfaaPy
import Derived.Deep.DeepCutAuto
namespace Go.Proofs.Ythoilgkhehemfaa
open Go.RowKit
set_option linter.unusedVariables false
set_option linter.unusedSimpArgs false


set_option maxHeartbeats 8000000 in
theorem spec_RunEvents (m : Int) (o a b e : Bool) (A : Option Addr) (n c : Nat) (Z : Nat → Int) (w : World) (hZ : IntsAt w A n Z) (hn : n ≤ 1048576) :
    Calls Try.prog 25 #[.agg #[.int .i64 m, .bool o, .bool a, .bool b, .bool e], .slice A n c] w fun e' w' => e' = .returned (.tuple #[(runS ⟨m, o, a, b, e⟩ Z n).val, .int .i64 (runR ⟨m, o, a, b, e⟩ Z n), .int .i64 (runC ⟨m, o, a, b, e⟩ Z n)]) ∧ Below w.heap.size w w' := by
  have ka := fun W h h' => spec_l13Ask w.heap.size 0 ⟨m, o, a, b, e⟩ A n c Z W h h' hn
  have hO := (StAt.made w 27 m o a b e).below (Below.alloc (Below.refl _ _) (Nat.le_refl _) (Obj.cells #[.int .i64 0, .bool false, .bool false, .bool false, .bool false] 27))
  have hR := StAt.made (w.alloc (Obj.cells #[.int .i64 m, .bool o, .bool a, .bool b, .bool e] 27)) 27 0 false false false false
  rw [show (w.alloc (Obj.cells #[.int .i64 m, .bool o, .bool a, .bool b, .bool e] 27)).heap.size = w.heap.size + 1 by simp] at hR
  have hB : Below w.heap.size w ((w.alloc (Obj.cells #[.int .i64 m, .bool o, .bool a, .bool b, .bool e] 27)).alloc (Obj.cells #[.int .i64 0, .bool false, .bool false, .bool false, .bool false] 27)) := by go_grown
  have hZ1 := hZ.below hB
  by_cases hcc : runC ⟨m, o, a, b, e⟩ Z n = 0
  · obtain ⟨e1, e2, e3, e4⟩ := run_ok hcc
    rw [e1, e2, e3]
    have hev : ∀ j, j < n → 1 ≤ Z j ∧ Z j ≤ 9 := fun j hj => by
      have hb : badEv Z n = false := by
        cases hb : badEv Z n
        · rfl
        · unfold runC at hcc; rw [hb] at hcc; split at hcc <;> simp at hcc
      exact inB_true.1 (badEv_at hb hj)
    have hn64 : n ≤ 64 := by
      unfold runC at hcc
      split at hcc
      · split at hcc
        · simp at hcc
        · split at hcc
          · assumption
          · simp at hcc
      · simp at hcc
    rw [hcc] at ka
    have HV := Lib.hid hev
    have d0 := hO.c0
    clear e1 e2 e3 e4 hev hcc
    go_enter Try.func25, Try.ntmps25
    go_wp2_with fail
    refine (ka _ d0 hZ1).mono ?_
    rintro e' w' ⟨rfl, rfl⟩
    clear ka d0 hZ1
    obtain ⟨w0, hw0⟩ : ∃ w0, (w.alloc (Obj.cells #[.int .i64 m, .bool o, .bool a, .bool b, .bool e] 27)).alloc (Obj.cells #[.int .i64 0, .bool false, .bool false, .bool false, .bool false] 27) = w0 := ⟨_, rfl⟩
    rw [hw0] at hO hR hB ⊢
    clear hw0
    generalize hg : w.heap.size = g at *
    have HG := Lib.hid hg
    clear hg
    go_wp2
    go_loopw [8, 9] (fun r i wr => ∃ k : Nat, k ≤ n ∧ i = .int .i64 k ∧ r = .int .i64 (refE ⟨m, o, a, b, e⟩ Z k : Int) ∧ StAt wr g (stE ⟨m, o, a, b, e⟩ Z k) ∧ StAt wr (g + 1) ⟨0, false, false, false, false⟩ ∧ Below g w wr) (fun _ i _ => n - (intOf i).toNat)
    case atStart => exact ⟨0, by omega, rfl, rfl, hO, hR, hB⟩
    case round =>
      clear hO hR hB
      obtain ⟨k, hk, rfl, rfl, hO, hR, hB⟩ := hrel
      have l1 := refE_le ⟨m, o, a, b, e⟩ Z k
      have hl := hO.lt
      by_cases hlt : k < n
      · obtain ⟨b', o', rfl, hb', hc⟩ := hZ (by omega)
        rw [HG.out] at hb'
        have ck := (hB.cell (p := ⟨b', o' + k, none⟩) hb').trans (hc k hlt)
        have hb'' : b' < wr.heap.size := Nat.lt_trans hb' hl
        obtain ⟨v1, v2⟩ := HV.out k hlt
        have hno := fun h => run_no (x := ⟨m, o, a, b, e⟩) (Z := Z) (k := k) h
        have hyes := fun h => run_yes (x := ⟨m, o, a, b, e⟩) (Z := Z) (k := k) h
        have i0 : (0 : Int) ≤ (k : Int) := by omega
        have i1 : (k : Int) < (n : Int) := by omega
        clear hc
        generalize refE ⟨m, o, a, b, e⟩ Z k = rf at *
        generalize rideE ⟨m, o, a, b, e⟩ Z k = rd at *
        generalize stE ⟨m, o, a, b, e⟩ Z k = y at *
        obtain ⟨y0, y1, y2, y3, y4⟩ := y
        have kN := fun W => spec_l13Next y0 y1 y2 y3 y4 (Z k) W v1 v2
        generalize Z k = ev at *
        have d0 := hO.c0
        have d1 := hO.c1
        have d2 := hO.c2
        have d3 := hO.c3
        have d4 := hO.c4
        dsimp only at d0 d1 d2 d3 d4
        cases hal : allowed ⟨y0, y1, y2, y3, y4⟩ ev
        · rw [hal] at kN
          obtain ⟨e1, e2, e3⟩ := hno hal
          have E1 := Lib.hid e1
          have E2 := Lib.hid e2
          rw [show step ⟨y0, y1, y2, y3, y4⟩ ev = ⟨y0, y1, y2, y3, y4⟩ by unfold step; rw [hal]; rfl] at kN
          clear hno hyes e1 e2 e3 hal
          simp only [St.val] at kN
          go_upto_region 8 with fail
          go_cut [10, 11] (fun p q W => ∃ h : Nat, p = .pointer (some ⟨h, 0, none⟩) ∧ q = .bool false ∧ wr.heap.size ≤ h ∧ h < W.heap.size ∧ W.cell? ⟨h, 0, none⟩ = some (.int .i64 y0) ∧ W.cell? ⟨h, 1, none⟩ = some (.bool y1) ∧ W.cell? ⟨h, 2, none⟩ = some (.bool y2) ∧ W.cell? ⟨h, 3, none⟩ = some (.bool y3) ∧ W.cell? ⟨h, 4, none⟩ = some (.bool y4) ∧ Below wr.heap.size wr W)
          case first =>
            go_region_held3 (fun W => W.cell? ⟨g, 0, none⟩ = some (.int .i64 y0) ∧ W.cell? ⟨g, 1, none⟩ = some (.bool y1) ∧ W.cell? ⟨g, 2, none⟩ = some (.bool y2) ∧ W.cell? ⟨g, 3, none⟩ = some (.bool y3) ∧ W.cell? ⟨g, 4, none⟩ = some (.bool y4) ∧ W.cell? ⟨b', o' + k, none⟩ = some (.int .i64 ev) ∧ g < W.heap.size ∧ b' < W.heap.size ∧ wr.heap.size ≤ W.heap.size ∧ Below wr.heap.size wr W) (first | (refine ⟨?_, ?_, ?_, ?_, ?_, ?_, ?_, ?_, ?_, ?_⟩ <;> (repeat' (first | (with_reducible assumption) | (with_reducible refine cell_far ?_ ?_) | (with_reducible refine cell_old ?_ (by first | (with_reducible assumption) | omega | (simp; done) | (simp; omega))) | (with_reducible refine cell_drew ?_) | omega | (simp only [World.size_alloc, World.size_setCell, World.size_drew]; omega) | (with_reducible refine below_set ?_ ?_) | (with_reducible refine Below.alloc ?_ ?_ _) | (with_reducible refine Below.drew ?_) | (with_reducible exact Below.refl _ _) | omega | (go_cell; done) | (simp; done) | (simp; omega))); done)) (first | (go_at_call 53; obtain ⟨s0, s1, s2, s3, s4, s5, z0, z1, z2, sB⟩ := ‹_ ∧ _ ∧ _ ∧ _ ∧ _ ∧ _ ∧ _ ∧ _ ∧ _ ∧ _›; (with_reducible refine (kN _).mono ?_); rintro e' w1 ⟨rfl, hb⟩; have s0' := (hb.cell (p := ⟨g, 0, none⟩) z0).trans s0; have s1' := (hb.cell (p := ⟨g, 1, none⟩) z0).trans s1; have s2' := (hb.cell (p := ⟨g, 2, none⟩) z0).trans s2; have s3' := (hb.cell (p := ⟨g, 3, none⟩) z0).trans s3; have s4' := (hb.cell (p := ⟨g, 4, none⟩) z0).trans s4; have s5' := (hb.cell (p := ⟨b', o' + k, none⟩) z1).trans s5; have z0' := Nat.lt_of_lt_of_le z0 hb.size; have z1' := Nat.lt_of_lt_of_le z1 hb.size; have z2' := Nat.le_trans z2 hb.size; have sB' : Below wr.heap.size wr w1 := Below.trans sB (hb.mono sB.size); obtain ⟨hc, hf, hs⟩ := bkeep hb; clear hb))
            all_goals
              go_wp2_with fail
              go_meet
              obtain ⟨s0, s1, s2, s3, s4, s5, z0, z1, z2, sB⟩ := ‹_ ∧ _ ∧ _ ∧ _ ∧ _ ∧ _ ∧ _ ∧ _ ∧ _ ∧ _›
              refine ⟨_, rfl, rfl, ?_, ?_, ?_, ?_, ?_, ?_, ?_, sB⟩
              all_goals first | (go_simp; done) | (simp; done) | (simp; omega) | omega | (refine cell_off (cell_off (cell_off (cell_off (cell_same (x := .int .i64 0) ?_) (by decide)) (by decide)) (by decide)) (by decide); go_simp; done) | (refine cell_off (cell_off (cell_off (cell_same (x := .bool false) (cell_off ?_ (by decide))) (by decide)) (by decide)) (by decide); go_simp; done) | (refine cell_off (cell_off (cell_same (x := .bool false) (cell_off (cell_off ?_ (by decide)) (by decide))) (by decide)) (by decide); go_simp; done) | (refine cell_off (cell_same (x := .bool false) (cell_off (cell_off (cell_off ?_ (by decide)) (by decide)) (by decide))) (by decide); go_simp; done) | (refine cell_same (x := .bool false) (cell_off (cell_off (cell_off (cell_off ?_ (by decide)) (by decide)) (by decide)) (by decide)); go_simp; done)
          case rest =>
            obtain ⟨h, rfl, rfl, h0, hl1, k0, k1, k2, k3, k4, hbW⟩ := hcut
            replace hO := hO.below hbW
            replace hR := hR.below hbW
            replace hB := hB.trans (hbW.mono (Nat.le_of_lt hl))
            replace hl := hO.lt
            replace ck := (hbW.cell (p := ⟨b', o' + k, none⟩) hb'').trans ck
            replace hb'' := Nat.lt_of_lt_of_le hb'' hbW.size
            clear hbW
            go_wp2
            go_roundw
            case rel => exact ⟨k + 1, by omega, by go_num, by rw [E2.out]; go_num, by rw [E1.out]; exact hO, hR, hB⟩
            case measure => simp [intOf]; omega
        · rw [hal] at kN
          obtain ⟨e1, e2, e3⟩ := hyes hal
          have E1 := Lib.hid e1
          rw [show step ⟨y0, y1, y2, y3, y4⟩ ev = after ⟨y0, y1, y2, y3, y4⟩ ev by unfold step; rw [hal]; rfl] at kN
          clear hno hyes e1 hal
          generalize after ⟨y0, y1, y2, y3, y4⟩ ev = R at *
          obtain ⟨r0, r1, r2, r3, r4⟩ := R
          simp only [St.val] at kN
          have E2 := Lib.hid e2
          clear e2 e3
          go_upto_region 8 with fail
          go_cut [10, 11] (fun p q W => ∃ h : Nat, p = .pointer (some ⟨h, 0, none⟩) ∧ q = .bool true ∧ wr.heap.size ≤ h ∧ h < W.heap.size ∧ W.cell? ⟨h, 0, none⟩ = some (.int .i64 r0) ∧ W.cell? ⟨h, 1, none⟩ = some (.bool r1) ∧ W.cell? ⟨h, 2, none⟩ = some (.bool r2) ∧ W.cell? ⟨h, 3, none⟩ = some (.bool r3) ∧ W.cell? ⟨h, 4, none⟩ = some (.bool r4) ∧ Below wr.heap.size wr W)
          case first =>
            go_region_held3 (fun W => W.cell? ⟨g, 0, none⟩ = some (.int .i64 y0) ∧ W.cell? ⟨g, 1, none⟩ = some (.bool y1) ∧ W.cell? ⟨g, 2, none⟩ = some (.bool y2) ∧ W.cell? ⟨g, 3, none⟩ = some (.bool y3) ∧ W.cell? ⟨g, 4, none⟩ = some (.bool y4) ∧ W.cell? ⟨b', o' + k, none⟩ = some (.int .i64 ev) ∧ g < W.heap.size ∧ b' < W.heap.size ∧ wr.heap.size ≤ W.heap.size ∧ Below wr.heap.size wr W) (first | (refine ⟨?_, ?_, ?_, ?_, ?_, ?_, ?_, ?_, ?_, ?_⟩ <;> (repeat' (first | (with_reducible assumption) | (with_reducible refine cell_far ?_ ?_) | (with_reducible refine cell_old ?_ (by first | (with_reducible assumption) | omega | (simp; done) | (simp; omega))) | (with_reducible refine cell_drew ?_) | omega | (simp only [World.size_alloc, World.size_setCell, World.size_drew]; omega) | (with_reducible refine below_set ?_ ?_) | (with_reducible refine Below.alloc ?_ ?_ _) | (with_reducible refine Below.drew ?_) | (with_reducible exact Below.refl _ _) | omega | (go_cell; done) | (simp; done) | (simp; omega))); done)) (first | (go_at_call 53; obtain ⟨s0, s1, s2, s3, s4, s5, z0, z1, z2, sB⟩ := ‹_ ∧ _ ∧ _ ∧ _ ∧ _ ∧ _ ∧ _ ∧ _ ∧ _ ∧ _›; (with_reducible refine (kN _).mono ?_); rintro e' w1 ⟨rfl, hb⟩; have s0' := (hb.cell (p := ⟨g, 0, none⟩) z0).trans s0; have s1' := (hb.cell (p := ⟨g, 1, none⟩) z0).trans s1; have s2' := (hb.cell (p := ⟨g, 2, none⟩) z0).trans s2; have s3' := (hb.cell (p := ⟨g, 3, none⟩) z0).trans s3; have s4' := (hb.cell (p := ⟨g, 4, none⟩) z0).trans s4; have s5' := (hb.cell (p := ⟨b', o' + k, none⟩) z1).trans s5; have z0' := Nat.lt_of_lt_of_le z0 hb.size; have z1' := Nat.lt_of_lt_of_le z1 hb.size; have z2' := Nat.le_trans z2 hb.size; have sB' : Below wr.heap.size wr w1 := Below.trans sB (hb.mono sB.size); obtain ⟨hc, hf, hs⟩ := bkeep hb; clear hb))
            all_goals
              go_wp2_with fail
              go_meet
              obtain ⟨s0, s1, s2, s3, s4, s5, z0, z1, z2, sB⟩ := ‹_ ∧ _ ∧ _ ∧ _ ∧ _ ∧ _ ∧ _ ∧ _ ∧ _ ∧ _›
              refine ⟨_, rfl, rfl, ?_, ?_, ?_, ?_, ?_, ?_, ?_, sB⟩
              all_goals first | (go_simp; done) | (simp; done) | (simp; omega) | omega | (refine cell_off (cell_off (cell_off (cell_off (cell_same (x := .int .i64 0) ?_) (by decide)) (by decide)) (by decide)) (by decide); go_simp; done) | (refine cell_off (cell_off (cell_off (cell_same (x := .bool false) (cell_off ?_ (by decide))) (by decide)) (by decide)) (by decide); go_simp; done) | (refine cell_off (cell_off (cell_same (x := .bool false) (cell_off (cell_off ?_ (by decide)) (by decide))) (by decide)) (by decide); go_simp; done) | (refine cell_off (cell_same (x := .bool false) (cell_off (cell_off (cell_off ?_ (by decide)) (by decide)) (by decide))) (by decide); go_simp; done) | (refine cell_same (x := .bool false) (cell_off (cell_off (cell_off (cell_off ?_ (by decide)) (by decide)) (by decide)) (by decide)); go_simp; done)
          case rest =>
            obtain ⟨h, rfl, rfl, h0, hl1, k0, k1, k2, k3, k4, hbW⟩ := hcut
            have hne : h ≠ g := by omega
            replace hO := hO.below hbW
            replace hR := hR.below hbW
            replace hB := hB.trans (hbW.mono (Nat.le_of_lt hl))
            replace hl := hO.lt
            replace ck := (hbW.cell (p := ⟨b', o' + k, none⟩) hb'').trans ck
            replace hb'' := Nat.lt_of_lt_of_le hb'' hbW.size
            clear hbW
            have f0 := hO.fr (show 0 < 5 by decide)
            have f1 := hO.fr (show 1 < 5 by decide)
            have f2 := hO.fr (show 2 < 5 by decide)
            have f3 := hO.fr (show 3 < 5 by decide)
            have f4 := hO.fr (show 4 < 5 by decide)
            have d0 := hO.c0
            have d1 := hO.c1
            have d2 := hO.c2
            have d3 := hO.c3
            have d4 := hO.c4
            dsimp only at d0 d1 d2 d3 d4
            go_wp2
            go_roundw
            case rel => exact ⟨k + 1, by omega, by go_num, by rw [E2.out], by rw [E1.out]; exact hO.put r0 r1 r2 r3 r4, hR.keep (keep_put _ g _ _ _ _ _) (by omega), hB.trans ((keep_put _ g _ _ _ _ _).below (Nat.le_refl _) (by omega))⟩
            case measure => simp [intOf]; omega
      · obtain rfl : k = n := by omega
        generalize hyy : stE ⟨m, o, a, b, e⟩ Z k = y at *
        have HYY := Lib.hid hyy
        clear hyy
        obtain ⟨y0, y1, y2, y3, y4⟩ := y
        have d0 := hO.c0
        have d1 := hO.c1
        have d2 := hO.c2
        have d3 := hO.c3
        have d4 := hO.c4
        dsimp only at d0 d1 d2 d3 d4
        have f0 := hR.fr (show 0 < 5 by decide)
        have r0 := hR.c0
        have f1 := hR.fr (show 1 < 5 by decide)
        have r1 := hR.c1
        have f2 := hR.fr (show 2 < 5 by decide)
        have r2 := hR.c2
        have f3 := hR.fr (show 3 < 5 by decide)
        have r3 := hR.c3
        have f4 := hR.fr (show 4 < 5 by decide)
        have r4 := hR.c4
        dsimp only at r0 r1 r2 r3 r4
        have hne : g ≠ g + 1 := by omega
        go_wp2
        refine bodyPost_ret (by simp [results, Try.results25, go_sem, *]; try rfl) rfl ?_
        exact ⟨by rw [HYY.out]; rfl, by rw [HG.out]; exact hB.trans ((keep_put _ (g + 1) _ _ _ _ _).below (by omega) (by omega))⟩
  · obtain ⟨e1, e2, e3, e4⟩ := run_x (c := runC ⟨m, o, a, b, e⟩ Z n) rfl hcc
    rw [e2, e3]
    have hc1 : (runC ⟨m, o, a, b, e⟩ Z n != 0) = true := by simpa using hcc
    generalize runC ⟨m, o, a, b, e⟩ Z n = C at *
    have d0 := hO.c0
    clear e1 e2 e3 e4 hcc
    go_enter Try.func25, Try.ntmps25
    go_wp2_with fail
    refine (ka _ d0 hZ1).mono ?_
    rintro e' w' ⟨rfl, rfl⟩
    clear hO d0 hZ1 hR
    go_wp2
    refine bodyPost_ret (by simp [results, Try.results25, go_sem, *]; try rfl) rfl ?_
    exact ⟨rfl, by go_grown⟩

set_option maxHeartbeats 8000000 in
theorem spec_CountRides (m : Int) (o a b e : Bool) (A : Option Addr) (n c : Nat) (Z : Nat → Int) (w : World) (hZ : IntsAt w A n Z) (hn : n ≤ 1048576) :
    Calls Try.prog 20 #[.agg #[.int .i64 m, .bool o, .bool a, .bool b, .bool e], .slice A n c] w fun e' w' => e' = .returned (.tuple #[.int .i64 (runD ⟨m, o, a, b, e⟩ Z n), .int .i64 (runC ⟨m, o, a, b, e⟩ Z n)]) ∧ Below w.heap.size w w' := by
  have ka := fun W h h' => spec_l13Ask w.heap.size 0 ⟨m, o, a, b, e⟩ A n c Z W h h' hn
  have hO := StAt.made w 27 m o a b e
  have hB : Below w.heap.size w (w.alloc (Obj.cells #[.int .i64 m, .bool o, .bool a, .bool b, .bool e] 27)) := by go_grown
  have hZ1 := hZ.below hB
  by_cases hcc : runC ⟨m, o, a, b, e⟩ Z n = 0
  · obtain ⟨e1, e2, e3, e4⟩ := run_ok hcc
    rw [e1, e4]
    have hev : ∀ j, j < n → 1 ≤ Z j ∧ Z j ≤ 9 := fun j hj => by
      have hb : badEv Z n = false := by
        cases hb : badEv Z n
        · rfl
        · unfold runC at hcc; rw [hb] at hcc; split at hcc <;> simp at hcc
      exact inB_true.1 (badEv_at hb hj)
    have hn64 : n ≤ 64 := by
      unfold runC at hcc
      split at hcc
      · split at hcc
        · simp at hcc
        · split at hcc
          · assumption
          · simp at hcc
      · simp at hcc
    rw [hcc] at ka
    have HV := Lib.hid hev
    have d0 := hO.c0
    clear e1 e2 e3 e4 hev hcc
    go_enter Try.func20, Try.ntmps20
    go_wp2_with fail
    refine (ka _ d0 hZ1).mono ?_
    rintro e' w' ⟨rfl, rfl⟩
    clear ka d0 hZ1
    obtain ⟨w0, hw0⟩ : ∃ w0, w.alloc (Obj.cells #[.int .i64 m, .bool o, .bool a, .bool b, .bool e] 27) = w0 := ⟨_, rfl⟩
    rw [hw0] at hO hB ⊢
    clear hw0
    generalize hg : w.heap.size = g at *
    have HG := Lib.hid hg
    clear hg
    go_wp2
    go_loopw [7, 8] (fun r i wr => ∃ k : Nat, k ≤ n ∧ i = .int .i64 k ∧ r = .int .i64 (rideE ⟨m, o, a, b, e⟩ Z k : Int) ∧ StAt wr g (stE ⟨m, o, a, b, e⟩ Z k) ∧ Below g w wr) (fun _ i _ => n - (intOf i).toNat)
    case atStart => exact ⟨0, by omega, rfl, rfl, hO, hB⟩
    case round =>
      clear hO hB
      obtain ⟨k, hk, rfl, rfl, hO, hB⟩ := hrel
      have l1 := rideE_le ⟨m, o, a, b, e⟩ Z k
      have hl := hO.lt
      by_cases hlt : k < n
      · obtain ⟨b', o', rfl, hb', hc⟩ := hZ (by omega)
        rw [HG.out] at hb'
        have ck := (hB.cell (p := ⟨b', o' + k, none⟩) hb').trans (hc k hlt)
        have hb'' : b' < wr.heap.size := Nat.lt_trans hb' hl
        obtain ⟨v1, v2⟩ := HV.out k hlt
        have hno := fun h => run_no (x := ⟨m, o, a, b, e⟩) (Z := Z) (k := k) h
        have hyes := fun h => run_yes (x := ⟨m, o, a, b, e⟩) (Z := Z) (k := k) h
        have i0 : (0 : Int) ≤ (k : Int) := by omega
        have i1 : (k : Int) < (n : Int) := by omega
        clear hc
        generalize refE ⟨m, o, a, b, e⟩ Z k = rf at *
        generalize rideE ⟨m, o, a, b, e⟩ Z k = rd at *
        generalize stE ⟨m, o, a, b, e⟩ Z k = y at *
        obtain ⟨y0, y1, y2, y3, y4⟩ := y
        have kN := fun W => spec_l13Next y0 y1 y2 y3 y4 (Z k) W v1 v2
        generalize Z k = ev at *
        have d0 := hO.c0
        have d1 := hO.c1
        have d2 := hO.c2
        have d3 := hO.c3
        have d4 := hO.c4
        dsimp only at d0 d1 d2 d3 d4
        cases hal : allowed ⟨y0, y1, y2, y3, y4⟩ ev
        · rw [hal] at kN
          obtain ⟨e1, e2, e3⟩ := hno hal
          have E1 := Lib.hid e1
          have E2 := Lib.hid e3
          rw [show step ⟨y0, y1, y2, y3, y4⟩ ev = ⟨y0, y1, y2, y3, y4⟩ by unfold step; rw [hal]; rfl] at kN
          clear hno hyes e1 e2 e3 hal
          simp only [St.val] at kN
          go_upto_region 8 with fail
          go_cut [9, 10] (fun p q W => ∃ h : Nat, p = .pointer (some ⟨h, 0, none⟩) ∧ q = .bool false ∧ wr.heap.size ≤ h ∧ h < W.heap.size ∧ W.cell? ⟨h, 0, none⟩ = some (.int .i64 y0) ∧ W.cell? ⟨h, 1, none⟩ = some (.bool y1) ∧ W.cell? ⟨h, 2, none⟩ = some (.bool y2) ∧ W.cell? ⟨h, 3, none⟩ = some (.bool y3) ∧ W.cell? ⟨h, 4, none⟩ = some (.bool y4) ∧ Below wr.heap.size wr W)
          case first =>
            go_region_held3 (fun W => W.cell? ⟨g, 0, none⟩ = some (.int .i64 y0) ∧ W.cell? ⟨g, 1, none⟩ = some (.bool y1) ∧ W.cell? ⟨g, 2, none⟩ = some (.bool y2) ∧ W.cell? ⟨g, 3, none⟩ = some (.bool y3) ∧ W.cell? ⟨g, 4, none⟩ = some (.bool y4) ∧ W.cell? ⟨b', o' + k, none⟩ = some (.int .i64 ev) ∧ g < W.heap.size ∧ b' < W.heap.size ∧ wr.heap.size ≤ W.heap.size ∧ Below wr.heap.size wr W) (first | (refine ⟨?_, ?_, ?_, ?_, ?_, ?_, ?_, ?_, ?_, ?_⟩ <;> (repeat' (first | (with_reducible assumption) | (with_reducible refine cell_far ?_ ?_) | (with_reducible refine cell_old ?_ (by first | (with_reducible assumption) | omega | (simp; done) | (simp; omega))) | (with_reducible refine cell_drew ?_) | omega | (simp only [World.size_alloc, World.size_setCell, World.size_drew]; omega) | (with_reducible refine below_set ?_ ?_) | (with_reducible refine Below.alloc ?_ ?_ _) | (with_reducible refine Below.drew ?_) | (with_reducible exact Below.refl _ _) | omega | (go_cell; done) | (simp; done) | (simp; omega))); done)) (first | (go_at_call 53; obtain ⟨s0, s1, s2, s3, s4, s5, z0, z1, z2, sB⟩ := ‹_ ∧ _ ∧ _ ∧ _ ∧ _ ∧ _ ∧ _ ∧ _ ∧ _ ∧ _›; (with_reducible refine (kN _).mono ?_); rintro e' w1 ⟨rfl, hb⟩; have s0' := (hb.cell (p := ⟨g, 0, none⟩) z0).trans s0; have s1' := (hb.cell (p := ⟨g, 1, none⟩) z0).trans s1; have s2' := (hb.cell (p := ⟨g, 2, none⟩) z0).trans s2; have s3' := (hb.cell (p := ⟨g, 3, none⟩) z0).trans s3; have s4' := (hb.cell (p := ⟨g, 4, none⟩) z0).trans s4; have s5' := (hb.cell (p := ⟨b', o' + k, none⟩) z1).trans s5; have z0' := Nat.lt_of_lt_of_le z0 hb.size; have z1' := Nat.lt_of_lt_of_le z1 hb.size; have z2' := Nat.le_trans z2 hb.size; have sB' : Below wr.heap.size wr w1 := Below.trans sB (hb.mono sB.size); obtain ⟨hc, hf, hs⟩ := bkeep hb; clear hb))
            all_goals
              go_wp2_with fail
              go_meet
              obtain ⟨s0, s1, s2, s3, s4, s5, z0, z1, z2, sB⟩ := ‹_ ∧ _ ∧ _ ∧ _ ∧ _ ∧ _ ∧ _ ∧ _ ∧ _ ∧ _›
              refine ⟨_, rfl, rfl, ?_, ?_, ?_, ?_, ?_, ?_, ?_, sB⟩
              all_goals first | (go_simp; done) | (simp; done) | (simp; omega) | omega | (refine cell_off (cell_off (cell_off (cell_off (cell_same (x := .int .i64 0) ?_) (by decide)) (by decide)) (by decide)) (by decide); go_simp; done) | (refine cell_off (cell_off (cell_off (cell_same (x := .bool false) (cell_off ?_ (by decide))) (by decide)) (by decide)) (by decide); go_simp; done) | (refine cell_off (cell_off (cell_same (x := .bool false) (cell_off (cell_off ?_ (by decide)) (by decide))) (by decide)) (by decide); go_simp; done) | (refine cell_off (cell_same (x := .bool false) (cell_off (cell_off (cell_off ?_ (by decide)) (by decide)) (by decide))) (by decide); go_simp; done) | (refine cell_same (x := .bool false) (cell_off (cell_off (cell_off (cell_off ?_ (by decide)) (by decide)) (by decide)) (by decide)); go_simp; done)
          case rest =>
            obtain ⟨h, rfl, rfl, h0, hl1, k0, k1, k2, k3, k4, hbW⟩ := hcut
            replace hO := hO.below hbW
            replace hB := hB.trans (hbW.mono (Nat.le_of_lt hl))
            replace hl := hO.lt
            replace ck := (hbW.cell (p := ⟨b', o' + k, none⟩) hb'').trans ck
            replace hb'' := Nat.lt_of_lt_of_le hb'' hbW.size
            clear hbW
            go_wp2
            go_roundw
            case rel => exact ⟨k + 1, by omega, by go_num, by rw [E2.out], by rw [E1.out]; exact hO, hB⟩
            case measure => simp [intOf]; omega
        · rw [hal] at kN
          obtain ⟨e1, e2, e3⟩ := hyes hal
          have E1 := Lib.hid e1
          rw [show step ⟨y0, y1, y2, y3, y4⟩ ev = after ⟨y0, y1, y2, y3, y4⟩ ev by unfold step; rw [hal]; rfl] at kN
          clear hno hyes e1 hal
          generalize after ⟨y0, y1, y2, y3, y4⟩ ev = R at *
          obtain ⟨r0, r1, r2, r3, r4⟩ := R
          simp only [St.val] at kN
          cases h7 : (ev == 7)
          · rw [h7, if_neg (by decide)] at e3
            have E2 := Lib.hid e3
            clear e2 e3
            go_upto_region 8 with fail
            go_cut [9, 10] (fun p q W => ∃ h : Nat, p = .pointer (some ⟨h, 0, none⟩) ∧ q = .bool true ∧ wr.heap.size ≤ h ∧ h < W.heap.size ∧ W.cell? ⟨h, 0, none⟩ = some (.int .i64 r0) ∧ W.cell? ⟨h, 1, none⟩ = some (.bool r1) ∧ W.cell? ⟨h, 2, none⟩ = some (.bool r2) ∧ W.cell? ⟨h, 3, none⟩ = some (.bool r3) ∧ W.cell? ⟨h, 4, none⟩ = some (.bool r4) ∧ Below wr.heap.size wr W)
            case first =>
              go_region_held3 (fun W => W.cell? ⟨g, 0, none⟩ = some (.int .i64 y0) ∧ W.cell? ⟨g, 1, none⟩ = some (.bool y1) ∧ W.cell? ⟨g, 2, none⟩ = some (.bool y2) ∧ W.cell? ⟨g, 3, none⟩ = some (.bool y3) ∧ W.cell? ⟨g, 4, none⟩ = some (.bool y4) ∧ W.cell? ⟨b', o' + k, none⟩ = some (.int .i64 ev) ∧ g < W.heap.size ∧ b' < W.heap.size ∧ wr.heap.size ≤ W.heap.size ∧ Below wr.heap.size wr W) (first | (refine ⟨?_, ?_, ?_, ?_, ?_, ?_, ?_, ?_, ?_, ?_⟩ <;> (repeat' (first | (with_reducible assumption) | (with_reducible refine cell_far ?_ ?_) | (with_reducible refine cell_old ?_ (by first | (with_reducible assumption) | omega | (simp; done) | (simp; omega))) | (with_reducible refine cell_drew ?_) | omega | (simp only [World.size_alloc, World.size_setCell, World.size_drew]; omega) | (with_reducible refine below_set ?_ ?_) | (with_reducible refine Below.alloc ?_ ?_ _) | (with_reducible refine Below.drew ?_) | (with_reducible exact Below.refl _ _) | omega | (go_cell; done) | (simp; done) | (simp; omega))); done)) (first | (go_at_call 53; obtain ⟨s0, s1, s2, s3, s4, s5, z0, z1, z2, sB⟩ := ‹_ ∧ _ ∧ _ ∧ _ ∧ _ ∧ _ ∧ _ ∧ _ ∧ _ ∧ _›; (with_reducible refine (kN _).mono ?_); rintro e' w1 ⟨rfl, hb⟩; have s0' := (hb.cell (p := ⟨g, 0, none⟩) z0).trans s0; have s1' := (hb.cell (p := ⟨g, 1, none⟩) z0).trans s1; have s2' := (hb.cell (p := ⟨g, 2, none⟩) z0).trans s2; have s3' := (hb.cell (p := ⟨g, 3, none⟩) z0).trans s3; have s4' := (hb.cell (p := ⟨g, 4, none⟩) z0).trans s4; have s5' := (hb.cell (p := ⟨b', o' + k, none⟩) z1).trans s5; have z0' := Nat.lt_of_lt_of_le z0 hb.size; have z1' := Nat.lt_of_lt_of_le z1 hb.size; have z2' := Nat.le_trans z2 hb.size; have sB' : Below wr.heap.size wr w1 := Below.trans sB (hb.mono sB.size); obtain ⟨hc, hf, hs⟩ := bkeep hb; clear hb))
              all_goals
                go_wp2_with fail
                go_meet
                obtain ⟨s0, s1, s2, s3, s4, s5, z0, z1, z2, sB⟩ := ‹_ ∧ _ ∧ _ ∧ _ ∧ _ ∧ _ ∧ _ ∧ _ ∧ _ ∧ _›
                refine ⟨_, rfl, rfl, ?_, ?_, ?_, ?_, ?_, ?_, ?_, sB⟩
                all_goals first | (go_simp; done) | (simp; done) | (simp; omega) | omega | (refine cell_off (cell_off (cell_off (cell_off (cell_same (x := .int .i64 0) ?_) (by decide)) (by decide)) (by decide)) (by decide); go_simp; done) | (refine cell_off (cell_off (cell_off (cell_same (x := .bool false) (cell_off ?_ (by decide))) (by decide)) (by decide)) (by decide); go_simp; done) | (refine cell_off (cell_off (cell_same (x := .bool false) (cell_off (cell_off ?_ (by decide)) (by decide))) (by decide)) (by decide); go_simp; done) | (refine cell_off (cell_same (x := .bool false) (cell_off (cell_off (cell_off ?_ (by decide)) (by decide)) (by decide))) (by decide); go_simp; done) | (refine cell_same (x := .bool false) (cell_off (cell_off (cell_off (cell_off ?_ (by decide)) (by decide)) (by decide)) (by decide)); go_simp; done)
            case rest =>
              obtain ⟨h, rfl, rfl, h0, hl1, k0, k1, k2, k3, k4, hbW⟩ := hcut
              have hne : h ≠ g := by omega
              replace hO := hO.below hbW
              replace hB := hB.trans (hbW.mono (Nat.le_of_lt hl))
              replace hl := hO.lt
              replace ck := (hbW.cell (p := ⟨b', o' + k, none⟩) hb'').trans ck
              replace hb'' := Nat.lt_of_lt_of_le hb'' hbW.size
              clear hbW
              have f0 := hO.fr (show 0 < 5 by decide)
              have f1 := hO.fr (show 1 < 5 by decide)
              have f2 := hO.fr (show 2 < 5 by decide)
              have f3 := hO.fr (show 3 < 5 by decide)
              have f4 := hO.fr (show 4 < 5 by decide)
              have d0 := hO.c0
              have d1 := hO.c1
              have d2 := hO.c2
              have d3 := hO.c3
              have d4 := hO.c4
              dsimp only at d0 d1 d2 d3 d4
              go_wp2
              go_roundw
              case rel => exact ⟨k + 1, by omega, by go_num, by rw [E2.out]; go_num, by rw [E1.out]; exact hO.put r0 r1 r2 r3 r4, hB.trans ((keep_put _ g _ _ _ _ _).below (Nat.le_refl _) (by omega))⟩
              case measure => simp [intOf]; omega
          · rw [h7, if_pos rfl] at e3
            have E2 := Lib.hid e3
            clear e2 e3
            go_upto_region 8 with fail
            go_cut [9, 10] (fun p q W => ∃ h : Nat, p = .pointer (some ⟨h, 0, none⟩) ∧ q = .bool true ∧ wr.heap.size ≤ h ∧ h < W.heap.size ∧ W.cell? ⟨h, 0, none⟩ = some (.int .i64 r0) ∧ W.cell? ⟨h, 1, none⟩ = some (.bool r1) ∧ W.cell? ⟨h, 2, none⟩ = some (.bool r2) ∧ W.cell? ⟨h, 3, none⟩ = some (.bool r3) ∧ W.cell? ⟨h, 4, none⟩ = some (.bool r4) ∧ Below wr.heap.size wr W)
            case first =>
              go_region_held3 (fun W => W.cell? ⟨g, 0, none⟩ = some (.int .i64 y0) ∧ W.cell? ⟨g, 1, none⟩ = some (.bool y1) ∧ W.cell? ⟨g, 2, none⟩ = some (.bool y2) ∧ W.cell? ⟨g, 3, none⟩ = some (.bool y3) ∧ W.cell? ⟨g, 4, none⟩ = some (.bool y4) ∧ W.cell? ⟨b', o' + k, none⟩ = some (.int .i64 ev) ∧ g < W.heap.size ∧ b' < W.heap.size ∧ wr.heap.size ≤ W.heap.size ∧ Below wr.heap.size wr W) (first | (refine ⟨?_, ?_, ?_, ?_, ?_, ?_, ?_, ?_, ?_, ?_⟩ <;> (repeat' (first | (with_reducible assumption) | (with_reducible refine cell_far ?_ ?_) | (with_reducible refine cell_old ?_ (by first | (with_reducible assumption) | omega | (simp; done) | (simp; omega))) | (with_reducible refine cell_drew ?_) | omega | (simp only [World.size_alloc, World.size_setCell, World.size_drew]; omega) | (with_reducible refine below_set ?_ ?_) | (with_reducible refine Below.alloc ?_ ?_ _) | (with_reducible refine Below.drew ?_) | (with_reducible exact Below.refl _ _) | omega | (go_cell; done) | (simp; done) | (simp; omega))); done)) (first | (go_at_call 53; obtain ⟨s0, s1, s2, s3, s4, s5, z0, z1, z2, sB⟩ := ‹_ ∧ _ ∧ _ ∧ _ ∧ _ ∧ _ ∧ _ ∧ _ ∧ _ ∧ _›; (with_reducible refine (kN _).mono ?_); rintro e' w1 ⟨rfl, hb⟩; have s0' := (hb.cell (p := ⟨g, 0, none⟩) z0).trans s0; have s1' := (hb.cell (p := ⟨g, 1, none⟩) z0).trans s1; have s2' := (hb.cell (p := ⟨g, 2, none⟩) z0).trans s2; have s3' := (hb.cell (p := ⟨g, 3, none⟩) z0).trans s3; have s4' := (hb.cell (p := ⟨g, 4, none⟩) z0).trans s4; have s5' := (hb.cell (p := ⟨b', o' + k, none⟩) z1).trans s5; have z0' := Nat.lt_of_lt_of_le z0 hb.size; have z1' := Nat.lt_of_lt_of_le z1 hb.size; have z2' := Nat.le_trans z2 hb.size; have sB' : Below wr.heap.size wr w1 := Below.trans sB (hb.mono sB.size); obtain ⟨hc, hf, hs⟩ := bkeep hb; clear hb))
              all_goals
                go_wp2_with fail
                go_meet
                obtain ⟨s0, s1, s2, s3, s4, s5, z0, z1, z2, sB⟩ := ‹_ ∧ _ ∧ _ ∧ _ ∧ _ ∧ _ ∧ _ ∧ _ ∧ _ ∧ _›
                refine ⟨_, rfl, rfl, ?_, ?_, ?_, ?_, ?_, ?_, ?_, sB⟩
                all_goals first | (go_simp; done) | (simp; done) | (simp; omega) | omega | (refine cell_off (cell_off (cell_off (cell_off (cell_same (x := .int .i64 0) ?_) (by decide)) (by decide)) (by decide)) (by decide); go_simp; done) | (refine cell_off (cell_off (cell_off (cell_same (x := .bool false) (cell_off ?_ (by decide))) (by decide)) (by decide)) (by decide); go_simp; done) | (refine cell_off (cell_off (cell_same (x := .bool false) (cell_off (cell_off ?_ (by decide)) (by decide))) (by decide)) (by decide); go_simp; done) | (refine cell_off (cell_same (x := .bool false) (cell_off (cell_off (cell_off ?_ (by decide)) (by decide)) (by decide))) (by decide); go_simp; done) | (refine cell_same (x := .bool false) (cell_off (cell_off (cell_off (cell_off ?_ (by decide)) (by decide)) (by decide)) (by decide)); go_simp; done)
            case rest =>
              obtain ⟨h, rfl, rfl, h0, hl1, k0, k1, k2, k3, k4, hbW⟩ := hcut
              have hne : h ≠ g := by omega
              replace hO := hO.below hbW
              replace hB := hB.trans (hbW.mono (Nat.le_of_lt hl))
              replace hl := hO.lt
              replace ck := (hbW.cell (p := ⟨b', o' + k, none⟩) hb'').trans ck
              replace hb'' := Nat.lt_of_lt_of_le hb'' hbW.size
              clear hbW
              have f0 := hO.fr (show 0 < 5 by decide)
              have f1 := hO.fr (show 1 < 5 by decide)
              have f2 := hO.fr (show 2 < 5 by decide)
              have f3 := hO.fr (show 3 < 5 by decide)
              have f4 := hO.fr (show 4 < 5 by decide)
              have d0 := hO.c0
              have d1 := hO.c1
              have d2 := hO.c2
              have d3 := hO.c3
              have d4 := hO.c4
              dsimp only at d0 d1 d2 d3 d4
              go_wp2
              go_roundw
              case rel => exact ⟨k + 1, by omega, by go_num, by rw [E2.out]; go_num, by rw [E1.out]; exact hO.put r0 r1 r2 r3 r4, hB.trans ((keep_put _ g _ _ _ _ _).below (Nat.le_refl _) (by omega))⟩
              case measure => simp [intOf]; omega
      · obtain rfl : k = n := by omega
        generalize hyy : stE ⟨m, o, a, b, e⟩ Z k = y at *
        have HYY := Lib.hid hyy
        clear hyy
        obtain ⟨y0, y1, y2, y3, y4⟩ := y
        have d0 := hO.c0
        have d1 := hO.c1
        have d2 := hO.c2
        have d3 := hO.c3
        have d4 := hO.c4
        dsimp only at d0 d1 d2 d3 d4
        go_wp2
        go_returns
        exact ⟨rfl, by rw [HG.out]; exact hB⟩
  · obtain ⟨e1, e2, e3, e4⟩ := run_x (c := runC ⟨m, o, a, b, e⟩ Z n) rfl hcc
    rw [e4]
    have hc1 : (runC ⟨m, o, a, b, e⟩ Z n != 0) = true := by simpa using hcc
    generalize runC ⟨m, o, a, b, e⟩ Z n = C at *
    have d0 := hO.c0
    clear e1 e2 e3 e4 hcc
    go_enter Try.func20, Try.ntmps20
    go_wp2_with fail
    refine (ka _ d0 hZ1).mono ?_
    rintro e' w' ⟨rfl, rfl⟩
    clear hO d0 hZ1 
    go_wp2
    go_returns
    exact ⟨rfl, by go_grown⟩

end Go.Proofs.Ythoilgkhehemfaa
