/-
  Contracts: events of a door one after another, in the reference.
-/
import Derived.Test.YtdnnmpmpemcpbaaKU
import Derived.Test.YtdnnmpmpemcpbaaKJ2
import Derived.Test.YtdnnmpmpemcpbaaPy
import Derived.Test.YtdnnmpmpemcpbaaAt
import Derived.Deep.DeepCutAuto
namespace Go.Proofs.Ytdnnmpmpemcpbaa
open Go.RowKit
set_option linter.unusedVariables false
set_option linter.unusedSimpArgs false


set_option maxHeartbeats 8000000 in
theorem spec_DoorRun (p k0 r : Int) (A : Option Addr) (n c : Nat) (Z : Nat → Int) (w : World) (hZ : IntsAt w A n Z) (hn : n ≤ 1048576) :
    Calls Try.prog 9 #[.agg #[.int .i64 p, .int .i64 k0, .int .i64 r], .slice A n c] w (fun e' w' => e' = .returned (.tuple #[(drO ⟨p, k0, r⟩ Z n).val, .int .i64 (drC ⟨p, k0, r⟩ Z n)]) ∧ Below w.heap.size w w') := by
  have ka := fun W h h' h'' hz => spec_l14Ask w.heap.size 0 ⟨p, k0, r⟩ A n c Z W h h' h'' hz hn
  have hO := (DrAt.made w 25 p k0 r).below (Below.alloc (Below.refl _ _) (Nat.le_refl _) (Obj.cells #[.int .i64 0, .int .i64 0, .int .i64 0] 25))
  have hR := DrAt.made (w.alloc (Obj.cells #[.int .i64 p, .int .i64 k0, .int .i64 r] 25)) 25 0 0 0
  rw [show (w.alloc (Obj.cells #[.int .i64 p, .int .i64 k0, .int .i64 r] 25)).heap.size = w.heap.size + 1 by simp] at hR
  have hB : Below w.heap.size w ((w.alloc (Obj.cells #[.int .i64 p, .int .i64 k0, .int .i64 r] 25)).alloc (Obj.cells #[.int .i64 0, .int .i64 0, .int .i64 0] 25)) := by go_grown
  have hZ1 := hZ.below hB
  by_cases hcc : drC ⟨p, k0, r⟩ Z n = 0
  · obtain ⟨e1, e2, e3⟩ := dr_ok hcc
    rw [e1, e2]
    obtain ⟨h1, h2, h3⟩ := dr_0 hcc
    have hev := fun j h => inB_true.1 (badDv_at (j := j) h3 h)
    have hok := fun k => Dr.ok_fits (drE_ok (d := ⟨p, k0, r⟩) (Z := Z) h1 k)
    have HV := Lib.hid hev
    have HF := Lib.hid hok
    rw [hcc] at ka
    have d0 := hO.c0
    have d1 := hO.c1
    have d2 := hO.c2
    clear e1 e2 e3 hev hok hcc h1 h3
    go_enter Try.func9, Try.ntmps9
    go_wp2_with fail
    refine (ka _ d0 d1 d2 hZ1).mono ?_
    rintro e' w' ⟨rfl, rfl⟩
    clear ka d0 d1 d2 hZ1
    obtain ⟨w0, hw0⟩ : ∃ w0, (w.alloc (Obj.cells #[.int .i64 p, .int .i64 k0, .int .i64 r] 25)).alloc (Obj.cells #[.int .i64 0, .int .i64 0, .int .i64 0] 25) = w0 := ⟨_, rfl⟩
    have hw1 : w.heap.size + 1 + 1 = w0.heap.size := by rw [← hw0]; simp
    rw [hw0] at hO hR hB ⊢
    clear hw0
    generalize hg : w.heap.size = g at *
    have HG := Lib.hid hg
    clear hg
    go_wp2
    go_loopw [7] (fun i wr => ∃ k : Nat, k ≤ n ∧ i = .int .i64 k ∧ DrAt wr g (drE ⟨p, k0, r⟩ Z k) ∧ DrAt wr (g + 1) ⟨0, 0, 0⟩ ∧ Below g w wr) (fun i _ => n - (intOf i).toNat)
    case atStart => exact ⟨0, by omega, rfl, hO, hR, hB⟩
    case round =>
      clear hO hR hB
      obtain ⟨k, hk, rfl, hO, hR, hB⟩ := hrel
      have hl := hO.lt
      by_cases hlt : k < n
      · obtain ⟨b', o', rfl, hb', hc⟩ := hZ (by omega)
        rw [HG.out] at hb'
        have ck := (hB.cell (p := ⟨b', o' + k, none⟩) hb').trans (hc k hlt)
        have hb'' : b' < wr.heap.size := Nat.lt_trans hb' hl
        obtain ⟨v1, v2⟩ := HV.out k hlt
        have hfi := HF.out k
        have i0 : (0 : Int) ≤ (k : Int) := by omega
        have i1 : (k : Int) < (n : Int) := by omega
        have hno := fun h => refL_no (d := ⟨p, k0, r⟩) (Z := Z) (k := k) h
        have hyes := fun h => refL_yes (d := ⟨p, k0, r⟩) (Z := Z) (k := k) h
        have hst : drE ⟨p, k0, r⟩ Z (k + 1) = doorStep (drE ⟨p, k0, r⟩ Z k) (Z k) := rfl
        clear hc
        generalize drE ⟨p, k0, r⟩ Z k = y at *
        generalize refL ⟨p, k0, r⟩ Z k = L at hno hyes
        obtain ⟨y0, y3, y2⟩ := y
        have kN := fun W => spec_l14After y0 y3 y2 (Z k) W hfi v1 v2
        generalize Z k = ev at *
        have d0 := hO.c0
        have d1 := hO.c1
        have d2 := hO.c2
        have f0 := hO.fr (show 0 < 3 by decide)
        have f1 := hO.fr (show 1 < 3 by decide)
        have f2 := hO.fr (show 2 < 3 by decide)
        dsimp only at d0 d1 d2
        generalize doorMay ⟨y0, y3, y2⟩ ev = al at *
        generalize doorStep ⟨y0, y3, y2⟩ ev = yn at *
        obtain ⟨r0, r1, r2⟩ := yn
        have E2 := Lib.hid hst
        clear hno hyes hst
        simp only [Dr.val] at kN
        go_upto_region 7 with fail
        go_region_with (go_at_call 35; (with_reducible refine (kN _).mono ?_); rintro e' w1 ⟨rfl, hb⟩; have hO1 := hO.below (Below.trans (Below.drew (Below.refl _ _)) hb); have hR1 := hR.below (Below.trans (Below.drew (Below.refl _ _)) hb); have hB1 := hB.trans (Below.trans (Below.drew (Below.refl _ _)) (hb.mono (Nat.le_of_lt hl))); have hl1 := hO1.lt; have p0 := hO1.c0; have g0 := hO1.fr (show 0 < 3 by decide); have p1 := hO1.c1; have g1 := hO1.fr (show 1 < 3 by decide); have p2 := hO1.c2; have g2 := hO1.fr (show 2 < 3 by decide); dsimp only at p0 p1 p2; clear hb)
        all_goals
          go_wp2
          go_roundw
          case rel => exact ⟨k + 1, by omega, by go_num, by rw [E2.out]; exact hO1.put r0 r1 r2, hR1.keep (keep_put3 _ g _ _ _) (by omega), hB1.trans ((keep_put3 _ g _ _ _).below (Nat.le_refl _) (by omega))⟩
          case measure => simp [intOf]; omega
      · obtain rfl : k = n := by omega
        generalize hyy : drE ⟨p, k0, r⟩ Z k = y at *
        have HYY := Lib.hid hyy
        clear hyy
        obtain ⟨y0, y3, y2⟩ := y
        have d0 := hO.c0
        have d1 := hO.c1
        have d2 := hO.c2
        have f0 := hR.fr (show 0 < 3 by decide)
        have f1 := hR.fr (show 1 < 3 by decide)
        have f2 := hR.fr (show 2 < 3 by decide)
        have r0 := hR.c0
        have r1 := hR.c1
        have r2 := hR.c2
        dsimp only at d0 d1 d2 r0 r1 r2
        have hne : g ≠ g + 1 := by omega
        have hl2 := hR.lt
        go_wp2
        refine bodyPost_ret (by simp [results, Try.results9, go_sem, *]; try rfl) rfl ?_
        exact ⟨by rw [HYY.out]; rfl, by rw [HG.out]; exact hB.trans ((keep_put3 _ (g + 1) _ _ _).below (by omega) (by omega))⟩
  · obtain ⟨e1, e2, e3⟩ := dr_x (c := drC ⟨p, k0, r⟩ Z n) rfl hcc
    rw [e2]
    have hc1 : (drC ⟨p, k0, r⟩ Z n != 0) = true := by simpa using hcc
    generalize drC ⟨p, k0, r⟩ Z n = C at *
    have d0 := hO.c0
    have d1 := hO.c1
    have d2 := hO.c2
    clear e1 e2 e3 hcc
    go_enter Try.func9, Try.ntmps9
    go_wp2_with fail
    refine (ka _ d0 d1 d2 hZ1).mono ?_
    rintro e' w' ⟨rfl, rfl⟩
    clear hO d0 d1 d2 hZ1 hR
    go_wp2
    refine bodyPost_ret (by simp [results, Try.results9, go_sem, *]; try rfl) rfl ?_
    exact ⟨rfl, by go_grown⟩

set_option maxHeartbeats 8000000 in
theorem spec_RefusedEvents (p k0 r : Int) (A : Option Addr) (n c : Nat) (Z : Nat → Int) (w : World) (hZ : IntsAt w A n Z) (hn : n ≤ 1048576) :
    Calls Try.prog 15 #[.agg #[.int .i64 p, .int .i64 k0, .int .i64 r], .slice A n c] w ((RetInts (drL ⟨p, k0, r⟩ Z n) (drC ⟨p, k0, r⟩ Z n) w)) := by
  have ka := fun W h h' h'' hz => spec_l14Ask w.heap.size 0 ⟨p, k0, r⟩ A n c Z W h h' h'' hz hn
  have hO := DrAt.made w 25 p k0 r
  have hB : Below w.heap.size w (w.alloc (Obj.cells #[.int .i64 p, .int .i64 k0, .int .i64 r] 25)) := by go_grown
  have hZ1 := hZ.below hB
  by_cases hcc : drC ⟨p, k0, r⟩ Z n = 0
  · obtain ⟨e1, e2, e3⟩ := dr_ok hcc
    rw [e1, e3]
    obtain ⟨h1, h2, h3⟩ := dr_0 hcc
    have hev := fun j h => inB_true.1 (badDv_at (j := j) h3 h)
    have hok := fun k => Dr.ok_fits (drE_ok (d := ⟨p, k0, r⟩) (Z := Z) h1 k)
    have HV := Lib.hid hev
    have HF := Lib.hid hok
    rw [hcc] at ka
    have d0 := hO.c0
    have d1 := hO.c1
    have d2 := hO.c2
    clear e1 e2 e3 hev hok hcc h1 h3
    go_enter Try.func15, Try.ntmps15
    go_wp2_with fail
    refine (ka _ d0 d1 d2 hZ1).mono ?_
    rintro e' w' ⟨rfl, rfl⟩
    clear ka d0 d1 d2 hZ1
    obtain ⟨w0, hw0⟩ : ∃ w0, w.alloc (Obj.cells #[.int .i64 p, .int .i64 k0, .int .i64 r] 25) = w0 := ⟨_, rfl⟩
    have hw1 : w.heap.size + 1 = w0.heap.size := by rw [← hw0]; simp
    rw [hw0] at hO hB ⊢
    clear hw0
    generalize hg : w.heap.size = g at *
    have HG := Lib.hid hg
    clear hg
    go_wp2
    go_loopw [7, 8] (fun u i wr => ∃ k : Nat, k ≤ n ∧ i = .int .i64 k ∧ AppOf (g + 1) wr u (refL ⟨p, k0, r⟩ Z k) ∧ DrAt wr g (drE ⟨p, k0, r⟩ Z k) ∧ Below g w wr ∧ g + 1 ≤ wr.heap.size) (fun _ i _ => n - (intOf i).toNat)
    case atStart => exact ⟨0, by omega, rfl, AppOf.made (by rw [← hw1]; omega), hO.below (Below.alloc (Below.refl _ _) (Nat.le_refl _) _), hB.trans (Below.alloc (Below.refl _ _) (by omega) _), by simp; omega⟩
    case round =>
      clear hO hB
      obtain ⟨k, hk, rfl, hA, hO, hB, hs⟩ := hrel
      have hlen : (refL ⟨p, k0, r⟩ Z k).length ≤ 16777216 := Nat.le_trans (refL_len _ _ _) (by omega)
      have hl := hO.lt
      by_cases hlt : k < n
      · obtain ⟨b', o', rfl, hb', hc⟩ := hZ (by omega)
        rw [HG.out] at hb'
        have ck := (hB.cell (p := ⟨b', o' + k, none⟩) hb').trans (hc k hlt)
        have hb'' : b' < wr.heap.size := Nat.lt_trans hb' hl
        obtain ⟨v1, v2⟩ := HV.out k hlt
        have hfi := HF.out k
        have i0 : (0 : Int) ≤ (k : Int) := by omega
        have i1 : (k : Int) < (n : Int) := by omega
        have hno := fun h => refL_no (d := ⟨p, k0, r⟩) (Z := Z) (k := k) h
        have hyes := fun h => refL_yes (d := ⟨p, k0, r⟩) (Z := Z) (k := k) h
        have hst : drE ⟨p, k0, r⟩ Z (k + 1) = doorStep (drE ⟨p, k0, r⟩ Z k) (Z k) := rfl
        clear hc
        generalize drE ⟨p, k0, r⟩ Z k = y at *
        generalize refL ⟨p, k0, r⟩ Z k = L at *
        obtain ⟨y0, y3, y2⟩ := y
        have kN := fun W => spec_l14After y0 y3 y2 (Z k) W hfi v1 v2
        generalize Z k = ev at *
        have d0 := hO.c0
        have d1 := hO.c1
        have d2 := hO.c2
        dsimp only at d0 d1 d2
        cases hal : doorMay ⟨y0, y3, y2⟩ ev
        · have e1 := hno hal
          have e2 : doorStep ⟨y0, y3, y2⟩ ev = ⟨y0, y3, y2⟩ := by unfold doorStep; rw [hal]; rfl
          rw [e2, hal] at kN
          rw [e2] at hst
          have E1 := Lib.hid e1
          have E2 := Lib.hid hst
          clear hno hyes hst e1 e2 hal
          simp only [Dr.val] at kN
          go_upto_region 8 with fail
          go_cut [9, 10] (fun p q W => ∃ h : Nat, p = .pointer (some ⟨h, 0, none⟩) ∧ q = .bool false ∧ wr.heap.size ≤ h ∧ h < W.heap.size ∧ W.cell? ⟨h, 0, none⟩ = some (.int .i64 y0) ∧ W.cell? ⟨h, 1, none⟩ = some (.int .i64 y3) ∧ W.cell? ⟨h, 2, none⟩ = some (.int .i64 y2) ∧ Below wr.heap.size wr W)
          case first =>
            go_region_held3 (fun W => W.cell? ⟨g, 0, none⟩ = some (.int .i64 y0) ∧ W.cell? ⟨g, 1, none⟩ = some (.int .i64 y3) ∧ W.cell? ⟨g, 2, none⟩ = some (.int .i64 y2) ∧ W.cell? ⟨b', o' + k, none⟩ = some (.int .i64 ev) ∧ g < W.heap.size ∧ b' < W.heap.size ∧ wr.heap.size ≤ W.heap.size ∧ Below wr.heap.size wr W) (first | (refine ⟨?_, ?_, ?_, ?_, ?_, ?_, ?_, ?_⟩ <;> (repeat' (first | (with_reducible assumption) | (with_reducible refine cell_far ?_ ?_) | (with_reducible refine cell_old ?_ (by first | (with_reducible assumption) | omega | (simp; done) | (simp; omega))) | (with_reducible refine cell_drew ?_) | omega | (simp only [World.size_alloc, World.size_setCell, World.size_drew]; omega) | (with_reducible refine below_set ?_ ?_) | (with_reducible refine Below.alloc ?_ ?_ _) | (with_reducible refine Below.drew ?_) | (with_reducible exact Below.refl _ _) | omega | (go_cell; done) | (simp; done) | (simp; omega))); done)) (first | (go_at_call 35; obtain ⟨s0, s1, s2, s3, z0, z1, z2, sB⟩ := ‹_ ∧ _ ∧ _ ∧ _ ∧ _ ∧ _ ∧ _ ∧ _›; (with_reducible refine (kN _).mono ?_); rintro e' w1 ⟨rfl, hb⟩; have s0' := (hb.cell (p := ⟨g, 0, none⟩) z0).trans s0; have s1' := (hb.cell (p := ⟨g, 1, none⟩) z0).trans s1; have s2' := (hb.cell (p := ⟨g, 2, none⟩) z0).trans s2; have s3' := (hb.cell (p := ⟨b', o' + k, none⟩) z1).trans s3; have z0' := Nat.lt_of_lt_of_le z0 hb.size; have z1' := Nat.lt_of_lt_of_le z1 hb.size; have z2' := Nat.le_trans z2 hb.size; have sB' : Below wr.heap.size wr w1 := Below.trans sB (hb.mono sB.size); obtain ⟨hc, hf, hs⟩ := bkeep hb; clear hb))
            all_goals
              go_wp2_with fail
              go_meet
              obtain ⟨s0, s1, s2, s3, z0, z1, z2, sB⟩ := ‹_ ∧ _ ∧ _ ∧ _ ∧ _ ∧ _ ∧ _ ∧ _›
              refine ⟨_, rfl, rfl, ?_, ?_, ?_, ?_, ?_, sB⟩
              all_goals first | (go_simp; done) | (simp; done) | (simp; omega) | omega | (refine cell_off (cell_off (cell_same (x := .int .i64 0) ?_) (by decide)) (by decide); go_simp; done) | (refine cell_off (cell_same (x := .int .i64 0) (cell_off ?_ (by decide))) (by decide); go_simp; done) | (refine cell_same (x := .int .i64 0) (cell_off (cell_off ?_ (by decide)) (by decide)); go_simp; done)
          case rest =>
            obtain ⟨h, rfl, rfl, h0, hl1, k0', k1', k2', hbW⟩ := hcut
            have hne := hA.other h0
            have hnh : h ≠ g := by omega
            replace hO := hO.below hbW
            replace hA := hA.below hbW
            replace hB := hB.trans (hbW.mono (Nat.le_of_lt hl))
            replace hs := Nat.le_trans hs hbW.size
            replace hl := hO.lt
            clear hbW
            have d0 := hO.c0
            have d1 := hO.c1
            have d2 := hO.c2
            have f0 := hO.fr (show 0 < 3 by decide)
            have f1 := hO.fr (show 1 < 3 by decide)
            have f2 := hO.fr (show 2 < 3 by decide)
            dsimp only at d0 d1 d2
            go_wp2_with (at_builtin; refine app_intK _ rfl _ _ rfl (g + 1) _ _ rfl (hA.alloc _) _ 1 (k : Int) rfl (by go_cell) hlen (by simp; omega) ?_; intro v' w3 hA' hw1 hk1; have q0 := (cell_blk (i := 0) (hk1 h (by simp; omega) hne)).trans (cell_old k0' hl1); have q1 := (cell_blk (i := 1) (hk1 h (by simp; omega) hne)).trans (cell_old k1' hl1); have q2 := (cell_blk (i := 2) (hk1 h (by simp; omega) hne)).trans (cell_old k2' hl1); have hO3 := (hO.below (Below.alloc (Below.refl _ _) (Nat.le_refl _) _)).low hw1 (by omega); have hB3 : Below g w w3 := (hB.trans (Below.alloc (Below.refl _ _) (by omega) _)).trans (hw1.mono (by omega)); have hs3 : g + 1 ≤ w3.heap.size := Nat.le_trans (by simp; omega) hw1.size; have hl3 := hO3.lt; have g0 := hO3.fr (show 0 < 3 by decide); have p0 := hO3.c0; have g1 := hO3.fr (show 1 < 3 by decide); have p1 := hO3.c1; have g2 := hO3.fr (show 2 < 3 by decide); have p2 := hO3.c2; dsimp only at p0 p1 p2; clear hk1)
            go_roundw
            case rel => exact ⟨k + 1, by omega, by go_num, by rw [E1.out]; exact hA'.put3 (by omega) _ _ _, by rw [E2.out]; exact hO3.put y0 y3 y2, hB3.trans ((keep_put3 _ g _ _ _).below (Nat.le_refl _) (by omega)), by simp [World.setCell]; omega⟩
            case measure => simp [intOf]; omega
        · have e1 := hyes hal
          rw [hal] at kN
          generalize doorStep ⟨y0, y3, y2⟩ ev = yn at *
          obtain ⟨r0, r1, r2⟩ := yn
          have E1 := Lib.hid e1
          have E2 := Lib.hid hst
          clear hno hyes hst e1 hal
          simp only [Dr.val] at kN
          go_upto_region 8 with fail
          go_cut [9, 10] (fun p q W => ∃ h : Nat, p = .pointer (some ⟨h, 0, none⟩) ∧ q = .bool true ∧ wr.heap.size ≤ h ∧ h < W.heap.size ∧ W.cell? ⟨h, 0, none⟩ = some (.int .i64 r0) ∧ W.cell? ⟨h, 1, none⟩ = some (.int .i64 r1) ∧ W.cell? ⟨h, 2, none⟩ = some (.int .i64 r2) ∧ Below wr.heap.size wr W)
          case first =>
            go_region_held3 (fun W => W.cell? ⟨g, 0, none⟩ = some (.int .i64 y0) ∧ W.cell? ⟨g, 1, none⟩ = some (.int .i64 y3) ∧ W.cell? ⟨g, 2, none⟩ = some (.int .i64 y2) ∧ W.cell? ⟨b', o' + k, none⟩ = some (.int .i64 ev) ∧ g < W.heap.size ∧ b' < W.heap.size ∧ wr.heap.size ≤ W.heap.size ∧ Below wr.heap.size wr W) (first | (refine ⟨?_, ?_, ?_, ?_, ?_, ?_, ?_, ?_⟩ <;> (repeat' (first | (with_reducible assumption) | (with_reducible refine cell_far ?_ ?_) | (with_reducible refine cell_old ?_ (by first | (with_reducible assumption) | omega | (simp; done) | (simp; omega))) | (with_reducible refine cell_drew ?_) | omega | (simp only [World.size_alloc, World.size_setCell, World.size_drew]; omega) | (with_reducible refine below_set ?_ ?_) | (with_reducible refine Below.alloc ?_ ?_ _) | (with_reducible refine Below.drew ?_) | (with_reducible exact Below.refl _ _) | omega | (go_cell; done) | (simp; done) | (simp; omega))); done)) (first | (go_at_call 35; obtain ⟨s0, s1, s2, s3, z0, z1, z2, sB⟩ := ‹_ ∧ _ ∧ _ ∧ _ ∧ _ ∧ _ ∧ _ ∧ _›; (with_reducible refine (kN _).mono ?_); rintro e' w1 ⟨rfl, hb⟩; have s0' := (hb.cell (p := ⟨g, 0, none⟩) z0).trans s0; have s1' := (hb.cell (p := ⟨g, 1, none⟩) z0).trans s1; have s2' := (hb.cell (p := ⟨g, 2, none⟩) z0).trans s2; have s3' := (hb.cell (p := ⟨b', o' + k, none⟩) z1).trans s3; have z0' := Nat.lt_of_lt_of_le z0 hb.size; have z1' := Nat.lt_of_lt_of_le z1 hb.size; have z2' := Nat.le_trans z2 hb.size; have sB' : Below wr.heap.size wr w1 := Below.trans sB (hb.mono sB.size); obtain ⟨hc, hf, hs⟩ := bkeep hb; clear hb))
            all_goals
              go_wp2_with fail
              go_meet
              obtain ⟨s0, s1, s2, s3, z0, z1, z2, sB⟩ := ‹_ ∧ _ ∧ _ ∧ _ ∧ _ ∧ _ ∧ _ ∧ _›
              refine ⟨_, rfl, rfl, ?_, ?_, ?_, ?_, ?_, sB⟩
              all_goals first | (go_simp; done) | (simp; done) | (simp; omega) | omega | (refine cell_off (cell_off (cell_same (x := .int .i64 0) ?_) (by decide)) (by decide); go_simp; done) | (refine cell_off (cell_same (x := .int .i64 0) (cell_off ?_ (by decide))) (by decide); go_simp; done) | (refine cell_same (x := .int .i64 0) (cell_off (cell_off ?_ (by decide)) (by decide)); go_simp; done)
          case rest =>
            obtain ⟨h, rfl, rfl, h0, hl1, k0', k1', k2', hbW⟩ := hcut
            have hne := hA.other h0
            have hnh : h ≠ g := by omega
            replace hO := hO.below hbW
            replace hA := hA.below hbW
            replace hB := hB.trans (hbW.mono (Nat.le_of_lt hl))
            replace hs := Nat.le_trans hs hbW.size
            replace hl := hO.lt
            clear hbW
            have d0 := hO.c0
            have d1 := hO.c1
            have d2 := hO.c2
            have f0 := hO.fr (show 0 < 3 by decide)
            have f1 := hO.fr (show 1 < 3 by decide)
            have f2 := hO.fr (show 2 < 3 by decide)
            dsimp only at d0 d1 d2
            go_wp2
            go_roundw
            case rel => exact ⟨k + 1, by omega, by go_num, by rw [E1.out]; exact hA.put3 (by omega) _ _ _, by rw [E2.out]; exact hO.put r0 r1 r2, hB.trans ((keep_put3 _ g _ _ _).below (Nat.le_refl _) (by omega)), by simp [World.setCell]; omega⟩
            case measure => simp [intOf]; omega
      · obtain rfl : k = n := by omega
        go_wp2
        go_returns
        have hx := hA.out
        obtain ⟨a2, c2, rfl, ho⟩ := hx
        rw [← HG.out] at ho hB
        exact ⟨_, _, rfl, ho.mono (by omega) (Nat.le_refl _), hB⟩
  · obtain ⟨e1, e2, e3⟩ := dr_x (c := drC ⟨p, k0, r⟩ Z n) rfl hcc
    rw [e3]
    have hc1 : (drC ⟨p, k0, r⟩ Z n != 0) = true := by simpa using hcc
    generalize drC ⟨p, k0, r⟩ Z n = C at *
    have d0 := hO.c0
    have d1 := hO.c1
    have d2 := hO.c2
    clear e1 e2 e3 hcc
    go_enter Try.func15, Try.ntmps15
    go_wp2_with fail
    refine (ka _ d0 d1 d2 hZ1).mono ?_
    rintro e' w' ⟨rfl, rfl⟩
    clear hO d0 d1 d2 hZ1 
    go_wp2
    go_returns
    exact ret_none (by go_grown)

end Go.Proofs.Ytdnnmpmpemcpbaa
