/-
  Walk of the law FnDoors.
-/
import Derived.Test.YtdhjnpjemaofoaaDoorDd
import Derived.Test.YtdhjnpjemaofoaaDoorDh
import Derived.Test.YtdhjnpjemaofoaaDoorKV
import Derived.Test.YtdhjnpjemaofoaaDoorKJ2
import Derived.Test.YtdhjnpjemaofoaaDoorRg
namespace Go.Proofs.YtdhjnpjemaofoaaDoor
open Go.RowKit
set_option linter.unusedVariables false
set_option linter.unusedSimpArgs false

theorem door_small {p k r : Int} (h : validDoor p k r = true) : (doorTx p k r).size ≤ 1048576 := by
  have hb := validDoor_bd' h
  have a := dtx_size (n := k) (by omega) (by omega)
  have b := dtx_size (n := r) (by omega) (by omega)
  have c : (⟨#[47]⟩ : ByteArray).size = 1 := rfl
  have d := doorName_size p
  unfold doorTx
  simp only [ByteArray.size_append]
  omega

set_option maxHeartbeats 16000000 in
set_option maxRecDepth 100000 in
theorem law_FnDoors (a0 : Option Addr) (n0 c0 : Nat) (a1 : Option Addr) (n1 c1 : Nat) (w : World) (hz0 : BytesAt w a0 n0) (hz1 : BytesAt w a1 n1) (hT : PowAt w) :
    Calls Tryd.prog 3 #[.slice a0 n0 c0, .slice a1 n1 c1] w fun e w' => e = .returned (.bool true) ∧ Below w.heap.size w w' := by
  have kl0 := fun W => laws_b10Long a0 n0 c0 W
  have kl1 := fun W => laws_b10Long a1 n1 c1 W
  by_cases hlen : n0 ≤ 1048576 ∧ n1 ≤ 1048576
  · rw [decide_eq_false (show ¬ (1048576 : Int) < (n0 : Int) by omega)] at kl0
    rw [decide_eq_false (show ¬ (1048576 : Int) < (n1 : Int) by omega)] at kl1
    have HZ0 := Lib.hid hz0
    have HZ1 := Lib.hid hz1
    have HT := Lib.hid hT
    clear hz0 hz1 hT
    go_enter Tryd.func3, Tryd.ntmps3
    go_wp2_with fail
    refine (kl0 _).mono ?_
    rintro e w' ⟨rfl, rfl⟩
    go_wp2_with fail
    refine (kl1 _).mono ?_
    rintro e w' ⟨rfl, rfl⟩
    clear kl0 kl1
    go_wp2_with fail
    refine (spec_DrawDoorRun a0 n0 c0 _ HZ0.out hlen.1).mono ?_
    rintro e wa ⟨p, k, r, v, rfl, ⟨aE, nE, cE, Z, rfl, n61, nc, cc, hO, hz⟩, hba⟩
    have sa := hba.size
    have RD := Row3.made wa (.int .i64 p) (.int .i64 k) (.int .i64 r) 25
    have bA : Below wa.heap.size wa (wa.alloc (Obj.cells #[.int .i64 p, .int .i64 k, .int .i64 r] 25)) := Below.alloc (Below.refl _ _) (Nat.le_refl _) _
    have hI := hO.ints.below bA
    have hB := hba.trans (bA.mono sa)
    clear hba bA hO nc cc hz
    go_upto_region 4 with fail
    generalize wa.alloc (Obj.cells #[.int .i64 p, .int .i64 k, .int .i64 r] 25) = wb at *
    generalize wa.heap.size = D at *
    clear wa
    have c0 := RD.c0
    have c1 := RD.c1
    have c2 := RD.c2
    go_wp2_with fail
    clear c0 c1 c2
    refine (impl_DoorRun p k r aE nE cE Z _ hI (by omega)).mono ?_
    rintro e wc ⟨rfl, hbc⟩
    have kR := fun W h => impl_RefusedEvents p k r aE nE cE Z W h (by omega)
    have F1 := Lib.hid (fun j h1 h2 => run_door (d := ⟨p, k, r⟩) (Z := Z) (n := nE) (k := j) h1 h2)
    have F2 := Lib.hid (fun h => run_rises (d := ⟨p, k, r⟩) (Z := Z) (n := nE) h)
    have F3 := Lib.hid (fun h => run_last (d := ⟨p, k, r⟩) (Z := Z) (n := nE) h)
    have F4 := Lib.hid (fun c h1 h2 => dr_x (d := ⟨p, k, r⟩) (Z := Z) (n := nE) (c := c) h1 h2)
    have F6 := drL_len ⟨p, k, r⟩ Z nE
    have F5 := Lib.hid (show drE ⟨p, k, r⟩ Z 0 = ⟨p, k, r⟩ from rfl)
    have RD2 := RD.below hbc
    have hI2 := hI.below hbc
    have sb := hB.size
    have hB2 := hB.trans (hbc.mono sb)
    clear RD hI hB hbc
    generalize hr : drO ⟨p, k, r⟩ Z nE = R at *
    generalize hl : drL ⟨p, k, r⟩ Z nE = RL at *
    generalize hc : drC ⟨p, k, r⟩ Z nE = C at *
    generalize hE : drE ⟨p, k, r⟩ Z = E at *
    clear hr hl hc hE
    obtain ⟨r0, r1, r2⟩ := R
    simp only [Dr.val] at *
    have sc := hB2.size
    have RL0 := Row3.made wc (.int .i64 r0) (.int .i64 r1) (.int .i64 r2) 25
    have bA : Below wc.heap.size wc (wc.alloc (Obj.cells #[.int .i64 r0, .int .i64 r1, .int .i64 r2] 25)) := Below.alloc (Below.refl _ _) (Nat.le_refl _) _
    have RD3 := RD2.below bA
    have hI3 := hI2.below bA
    have hB3 := hB2.trans (bA.mono sc)
    have dl := RD2.lt
    clear RD2 hI2 hB2 bA
    go_upto_region 5 with fail
    generalize wc.alloc (Obj.cells #[.int .i64 r0, .int .i64 r1, .int .i64 r2] 25) = wd at *
    generalize wc.heap.size = L at *
    clear wc
    have c0 := RD3.c0
    have c1 := RD3.c1
    have c2 := RD3.c2
    go_wp2_with fail
    clear c0 c1 c2
    refine (kR _ hI3).mono ?_
    rintro e we ⟨aR, cR, rfl, hOR, hbe⟩
    have hJ := hOR.ints
    have RD := RD3.below hbe
    have RL1 := RL0.below hbe
    have hI := hI3.below hbe
    have hB := hB3.trans (hbe.mono hB3.size)
    clear RD3 RL0 hI3 hB3 hOR hbe kR
    generalize hl : RL.length = m at *
    go_upto_if 53 with fail
    go_cut [] (fun W => Below w.heap.size w W)
    case first => as_aux_lemma =>
      by_cases hC : C = 0
      · subst hC
        obtain ⟨e1, e2⟩ := F3.out rfl
        have hris := F2.out rfl
        have G1 := Lib.hid (fun j h => F1.out j rfl h)
        have hv : validDoor r0 r1 r2 = true := by rw [← e1] at e2; exact e2
        clear F1 F2 F3 F4
        have E1 := Lib.hid e1
        clear e1 e2
        have RN := Row3.made we (.int .i64 p) (.int .i64 k) (.int .i64 r) 25
        have bA : Below we.heap.size we (we.alloc (Obj.cells #[.int .i64 p, .int .i64 k, .int .i64 r] 25)) := Below.alloc (Below.refl _ _) (Nat.le_refl _) _
        have RL2 := RL1.below bA
        have hI2 := (intsLt_of hI).below bA
        have hJ2 := (intsLt_of hJ).below bA
        have s2 := hB.size
        have hB2 := hB.trans (bA.mono s2)
        have hN : we.heap.size ≤ (we.alloc (Obj.cells #[.int .i64 p, .int .i64 k, .int .i64 r] 25)).heap.size := bA.size
        have ll := RL1.lt
        have c0 := RD.c0
        have c1 := RD.c1
        have c2 := RD.c2
        clear RL1 hI hJ hB bA
        go_upto_region 10 with fail
        clear c0 c1 c2 RD
        generalize we.alloc (Obj.cells #[.int .i64 p, .int .i64 k, .int .i64 r] 25) = wf at *
        generalize we.heap.size = N at *
        clear we
        have kr := fun W h => laws_b10Rises aR m cR (fun j => RL.getD j 0) nE W h (by omega) (by omega) hris
        go_wp2_with fail
        refine (kr _ (hJ2.ints hN)).mono ?_
        rintro e wg ⟨rfl, hbg⟩
        have RN2 := RN.below hbg
        have RL3 := RL2.below hbg
        have hI3 := hI2.below (hbg.mono hN)
        have hJ3 := hJ2.below (hbg.mono hN)
        have hB3 := hB2.trans (hbg.mono hB2.size)
        have hN3 := Nat.le_trans hN hbg.size
        clear RN RL2 hI2 hJ2 hB2 hbg kr hris
        have c0 := RL3.c0
        have c1 := RL3.c1
        have c2 := RL3.c2
        have kv := fun W => spec_ValidDoor r0 r1 r2 W
        rw [hv] at kv
        go_wp2_with fail
        refine (kv _).mono ?_
        rintro e wh ⟨rfl, hbh⟩
        have RN4 := RN2.below hbh
        have RL4 := RL3.below hbh
        have hI4 := hI3.below (hbh.mono hN3)
        have hJ4 := hJ3.below (hbh.mono hN3)
        have hN4 := Nat.le_trans hN3 hbh.size
        have hB4 := hB3.trans (hbh.mono hB3.size)
        clear RN2 RL3 hI3 hJ3 hB3 hbh kv c0 c1 c2
        have s4 := hB4.size
        go_wp2_with fail
        go_loopw [12] (fun i wr => ∃ j : Nat, j ≤ nE ∧ i = .int .i64 (j : Int) ∧ Row3 wr N (.int .i64 (E j).p) (.int .i64 (E j).k) (.int .i64 (E j).r) ∧ Below N wh wr) (fun i _ => nE - (intOf i).toNat)
        case atStart => exact ⟨0, by omega, rfl, by rw [F5.out]; exact RN4, Below.refl _ _⟩
        case round => as_aux_lemma =>
          clear RN4
          obtain ⟨j, hj, rfl, RN, hK⟩ := hrel
          have hI := (hI4.below hK).ints (by have := RN.lt; omega)
          have hJ := (hJ4.below hK).ints (by have := RN.lt; omega)
          have RL1 := RL4.lowB hK ll
          have hB := hB4.trans (hK.mono s2)
          clear hI4 hJ4 RL4 hB4
          have sB := hB.size
          by_cases hlt : j < nE
          · obtain ⟨hh, hE⟩ := G1.out j hlt
            obtain ⟨b', o', e, hb', hcz⟩ := id hI (by omega)
            have ck := hcz j hlt
            clear hcz
            subst e
            have j0 : (j : Int) < (nE : Int) := by omega
            have lN := RN.lt
            generalize hy : E j = y at *
            have HY := Lib.hid hy
            clear hy
            obtain ⟨y0, y1, y2⟩ := y
            have kN := fun W => impl_DoorAfter y0 y1 y2 (Z j) W
            have kh := fun W h => laws_b10Has aR m cR (fun j => RL.getD j 0) (j : Int) W h (by omega)
            rw [hh] at kh
            generalize Z j = ev at *
            have HE := Lib.hid hE
            clear hE hh
            generalize doorMay ⟨y0, y1, y2⟩ ev = my at *
            generalize doorV ⟨y0, y1, y2⟩ ev = R at *
            generalize doorCode ⟨y0, y1, y2⟩ ev = c at *
            obtain ⟨q0, q1, q2⟩ := R
            simp only [Dr.val] at kN
            have d0 := RN.c0
            have d1 := RN.c1
            have d2 := RN.c2
            dsimp only at d0 d1 d2
            go_upto_region 15 with fail
            go_cut [13, 14] (fun p q W => ∃ h : Nat, p = .pointer (some ⟨h, 0, none⟩) ∧ q = .int .i64 c ∧ wr.heap.size ≤ h ∧ h < W.heap.size ∧ W.cell? ⟨h, 0, none⟩ = some (.int .i64 q0) ∧ W.cell? ⟨h, 1, none⟩ = some (.int .i64 q1) ∧ W.cell? ⟨h, 2, none⟩ = some (.int .i64 q2) ∧ Below wr.heap.size wr W)
            case first => as_aux_lemma =>
              clear HE HY kh hJ RL1 hI hB hK G1 E1 F5 HT HZ0 HZ1 RN
              go_region_held3 (fun W => W.cell? ⟨N, 0, none⟩ = some (.int .i64 y0) ∧ W.cell? ⟨N, 1, none⟩ = some (.int .i64 y1) ∧ W.cell? ⟨N, 2, none⟩ = some (.int .i64 y2) ∧ W.cell? ⟨b', o' + j, none⟩ = some (.int .i64 ev) ∧ N < W.heap.size ∧ b' < W.heap.size ∧ wr.heap.size ≤ W.heap.size ∧ Below wr.heap.size wr W) (first | (refine ⟨?_, ?_, ?_, ?_, ?_, ?_, ?_, ?_⟩ <;> (repeat' (first | (with_reducible assumption) | (with_reducible refine cell_far ?_ ?_) | (with_reducible refine cell_old ?_ (by first | (with_reducible assumption) | omega | (simp; done) | (simp; omega))) | (with_reducible refine cell_drew ?_) | omega | (simp only [World.size_alloc, World.size_setCell, World.size_drew]; omega) | (with_reducible refine below_set ?_ ?_) | (with_reducible refine Below.alloc ?_ ?_ _) | (with_reducible refine Below.drew ?_) | (with_reducible exact Below.refl _ _) | omega | (go_cell; done) | (simp; done) | (simp; omega))); done)) (first | (go_at_call 11; obtain ⟨s0, s1, s2, s3, z0, z1, z2, sB⟩ := ‹_ ∧ _ ∧ _ ∧ _ ∧ _ ∧ _ ∧ _ ∧ _›; (with_reducible refine (kN _).mono ?_); rintro e' w1 ⟨rfl, hb⟩; have s0' := (hb.cell (p := ⟨N, 0, none⟩) z0).trans s0; have s1' := (hb.cell (p := ⟨N, 1, none⟩) z0).trans s1; have s2' := (hb.cell (p := ⟨N, 2, none⟩) z0).trans s2; have s3' := (hb.cell (p := ⟨b', o' + j, none⟩) z1).trans s3; have z0' := Nat.lt_of_lt_of_le z0 hb.size; have z1' := Nat.lt_of_lt_of_le z1 hb.size; have z2' := Nat.le_trans z2 hb.size; have sB' : Below wr.heap.size wr w1 := Below.trans sB (hb.mono sB.size); obtain ⟨hc, hf, hs⟩ := bkeep hb; clear hb))
              all_goals
                go_wp2_with fail
                go_meet
                obtain ⟨s0, s1, s2, s3, z0, z1, z2, sB⟩ := ‹_ ∧ _ ∧ _ ∧ _ ∧ _ ∧ _ ∧ _ ∧ _›
                refine ⟨_, rfl, rfl, ?_, ?_, ?_, ?_, ?_, sB⟩
                all_goals first | (go_simp; done) | (simp; done) | (simp; omega) | omega | (refine cell_off (cell_off (cell_same (x := .int .i64 0) ?_) (by decide)) (by decide); go_simp; done) | (refine cell_off (cell_same (x := .int .i64 0) (cell_off ?_ (by decide))) (by decide); go_simp; done) | (refine cell_same (x := .int .i64 0) (cell_off (cell_off ?_ (by decide)) (by decide)); go_simp; done)
            case rest => as_aux_lemma =>
              obtain ⟨h, rfl, rfl, h0, hl1, k0, k1, k2, hbW⟩ := hcut
              replace RN := RN.below hbW
              replace RL1 := RL1.below hbW
              replace hI := hI.below hbW
              replace hJ := hJ.below hbW
              replace hK := hK.trans (hbW.mono (Nat.le_of_lt lN))
              clear hbW ck d0 d1 d2 hB
              go_wp2_with fail
              refine (kh _ hJ).mono ?_
              rintro e w5 ⟨rfl, rfl⟩
              clear kh
              rcases HE.out with ⟨rfl, rfl, hn⟩ | ⟨rfl, rfl, hz, hn⟩
              · have HN := Lib.hid hn
                clear hn HE
                have f0 := RN.f0
                have f1 := RN.f1
                have f2 := RN.f2
                have d0 := RN.c0
                have d1 := RN.c1
                have d2 := RN.c2
                have hne : h ≠ N := by omega
                go_wp2_with fail
                go_roundw
                case rel => exact ⟨j + 1, by omega, by go_num, by rw [← HN.out]; exact RN.set0.set1.set2, below_set3 hK (Nat.le_refl N)⟩
                case measure => simp [intOf]; omega
              · have HN := Lib.hid hn
                clear hn HE hz
                go_wp2_with fail
                go_roundw
                case rel => exact ⟨j + 1, by omega, by go_num, by rw [HN.out]; exact RN, hK⟩
                case measure => simp [intOf]; omega
          · obtain rfl : j = nE := by omega
            clear G1 hj hlt
            have hEn := E1.out
            rw [← hEn] at RN
            dsimp only at RN
            have kQ := fun W => run_neq_Door_same r0 r1 r2 W
            have n0 := RN.c0
            have n1 := RN.c1
            have n2 := RN.c2
            have l0 := RL1.c0
            have l1 := RL1.c1
            have l2 := RL1.c2
            have lN := RN.lt
            have lL := RL1.lt
            clear hEn E1 F5 hI hJ hK RN RL1 F6 hl
            cases h0 : (r0 == 0)
            all_goals
              go_upto_region 20 with fail
              go_region_held3 (fun W => W.cell? ⟨N, 0, none⟩ = some (.int .i64 r0) ∧ W.cell? ⟨N, 1, none⟩ = some (.int .i64 r1) ∧ W.cell? ⟨N, 2, none⟩ = some (.int .i64 r2) ∧ W.cell? ⟨L, 0, none⟩ = some (.int .i64 r0) ∧ W.cell? ⟨L, 1, none⟩ = some (.int .i64 r1) ∧ W.cell? ⟨L, 2, none⟩ = some (.int .i64 r2) ∧ N < W.heap.size ∧ L < W.heap.size ∧ Below w.heap.size w W) (first | (refine ⟨?_, ?_, ?_, ?_, ?_, ?_, ?_, ?_, ?_⟩ <;> (repeat' (first | (with_reducible assumption) | (with_reducible refine cell_far ?_ ?_) | (with_reducible refine cell_old ?_ (by first | (with_reducible assumption) | omega | (simp; done) | (simp; omega))) | (with_reducible refine cell_drew ?_) | omega | (simp only [World.size_alloc, World.size_setCell, World.size_drew]; omega) | (with_reducible refine below_set ?_ ?_) | (with_reducible refine Below.alloc ?_ ?_ _) | (with_reducible refine Below.drew ?_) | (with_reducible exact Below.refl _ _) | omega | (go_cell; done) | (simp; done) | (simp; omega))); done)) (first | (go_at_call 13; obtain ⟨s0, s1, s2, s3, s4, s5, z0, z1, sB⟩ := ‹_ ∧ _ ∧ _ ∧ _ ∧ _ ∧ _ ∧ _ ∧ _ ∧ _›; (first | (with_reducible refine (impl_MayLeave_none _ _).mono ?_) | (with_reducible refine (impl_MayLeave_no _ _ r0 r1 r2 _ hv (by first | (simp; done) | (simp; omega)) (by go_cell) (by go_cell) (by go_cell)).mono ?_) | (with_reducible refine (impl_MayLeave_yes _ _ r0 r1 r2 _ _ hv h0 (by first | (simp; done) | (simp; omega)) (by go_cell) (by go_cell) (by go_cell)).mono ?_)); rintro e' w1 ⟨rfl, hb⟩; have s0' := (hb.cell (p := ⟨N, 0, none⟩) z0).trans s0; have s1' := (hb.cell (p := ⟨N, 1, none⟩) z0).trans s1; have s2' := (hb.cell (p := ⟨N, 2, none⟩) z0).trans s2; have s3' := (hb.cell (p := ⟨L, 0, none⟩) z1).trans s3; have s4' := (hb.cell (p := ⟨L, 1, none⟩) z1).trans s4; have s5' := (hb.cell (p := ⟨L, 2, none⟩) z1).trans s5; have z0' := Nat.lt_of_lt_of_le z0 hb.size; have z1' := Nat.lt_of_lt_of_le z1 hb.size; have sB' : Below w.heap.size w w1 := Below.trans sB (hb.mono sB.size); obtain ⟨hc, hf, hs⟩ := bkeep hb; clear hb))
              all_goals
                go_wp2_with fail
                go_meet
                obtain ⟨s0, s1, s2, s3, s4, s5, z0, z1, sB⟩ := ‹_ ∧ _ ∧ _ ∧ _ ∧ _ ∧ _ ∧ _ ∧ _ ∧ _›
                exact sB
      · obtain ⟨_, e1, e2⟩ := F4.out C rfl hC
        clear F1 F2 F3 F4 F5
        subst e2
        obtain rfl : m = 0 := hl.symm
        have e3 : r0 = 0 := congrArg Dr.p e1
        have e4 : r1 = 0 := congrArg Dr.k e1
        have e5 : r2 = 0 := congrArg Dr.r e1
        subst e3 e4 e5
        have kQ := fun W => run_neq_Door_same 0 0 0 W
        have l0 := RL1.c0
        have l1 := RL1.c1
        have l2 := RL1.c2
        have g0 : (C == 0) = false := by simpa using hC
        clear e1 hl
        go_wp2_with fail
        go_meet
        exact hB
    case rest => as_aux_lemma =>
      clear F1 F2 F3 F4 F5 hI hJ hB RD RL1 hl F6
      clear HZ0
      go_wp2_with fail
      refine (spec_DrawTicksToShut a1 n1 c1 _ (HZ1.out.below hcut) hlen.2).mono ?_
      rintro e wk ⟨x0, x1, x2, rfl, hbk⟩
      have hB := hcut.trans (hbk.mono hcut.size)
      have sk := hB.size
      have RX := Row3.made wk (.int .i64 x0) (.int .i64 x1) (.int .i64 x2) 25
      have bA : Below wk.heap.size wk (wk.alloc (Obj.cells #[.int .i64 x0, .int .i64 x1, .int .i64 x2] 25)) := Below.alloc (Below.refl _ _) (Nat.le_refl _) _
      have hB2 := hB.trans (bA.mono sk)
      clear hcut hbk hB bA HZ1
      go_upto_region 25 with fail
      generalize wk.alloc (Obj.cells #[.int .i64 x0, .int .i64 x1, .int .i64 x2] 25) = wl at *
      generalize wk.heap.size = X at *
      clear wk
      have d0 := RX.c0
      have d1 := RX.c1
      have d2 := RX.c2
      go_wp2_with fail
      clear d0 d1 d2
      refine (impl_TicksToShut x0 x1 x2 _).mono ?_
      rintro e wm ⟨rfl, hbm⟩
      have RX2 := RX.below hbm
      have hB := hB2.trans (hbm.mono hB2.size)
      clear RX hB2 hbm
      have d0 := RX2.c0
      have d1 := RX2.c1
      have d2 := RX2.c2
      cases hok : Dr.ok ⟨x0, x1, x2⟩
      · rw [show shutV ⟨x0, x1, x2⟩ = 0 by unfold shutV; rw [if_neg (by rw [hok]; decide)], show shutCode ⟨x0, x1, x2⟩ = 1 by unfold shutCode; rw [if_neg (by rw [hok]; decide)]]
        go_wp2_with fail
        go_returns
        exact ⟨rfl, hB⟩
      · rw [show shutV ⟨x0, x1, x2⟩ = leftD ⟨x0, x1, x2⟩ by unfold shutV; rw [if_pos hok], show shutCode ⟨x0, x1, x2⟩ = 0 by unfold shutCode; rw [if_pos hok]]
        obtain ⟨l0, l6, lp⟩ := leftD_pos hok
        have hx0 : validDoor x0 x1 x2 = true := hok
        have FL := Lib.hid (fun k h => pullN_left (d := ⟨x0, x1, x2⟩) hok (k := k) h)
        have FO := Lib.hid (fun k => pullN_ok (d := ⟨x0, x1, x2⟩) hok k)
        have FS := Lib.hid (fun k => show pullN ⟨x0, x1, x2⟩ (k + 1) = pullD (pullN ⟨x0, x1, x2⟩ k) from rfl)
        have FZ := Lib.hid (show pullN ⟨x0, x1, x2⟩ 0 = ⟨x0, x1, x2⟩ from rfl)
        generalize leftD ⟨x0, x1, x2⟩ = n at *
        generalize pullN ⟨x0, x1, x2⟩ = E at *
        dsimp only at lp
        obtain ⟨nn, rfl⟩ : ∃ nn : Nat, n = nn := ⟨n.toNat, by omega⟩
        have g0 : ¬ (nn : Int) < 0 := by omega
        have g1 : ¬ (20 : Int) < (nn : Int) := by omega
        have g2 : ((nn : Int) == 0) = (x0 == 0) := by
          rw [Bool.eq_iff_iff, beq_iff_eq, beq_iff_eq]; exact lp.symm
        have RW := Row3.made wm (.int .i64 x0) (.int .i64 x1) (.int .i64 x2) 25
        have bA : Below wm.heap.size wm (wm.alloc (Obj.cells #[.int .i64 x0, .int .i64 x1, .int .i64 x2] 25)) := Below.alloc (Below.refl _ _) (Nat.le_refl _) _
        have RX3 := RX2.below bA
        have hB3 := hB.trans (bA.mono hB.size)
        have sm := hB.size
        have lX := RX2.lt
        have h1 : decide ((nn : Int) < 0) = false := decide_eq_false g0
        have h2 : decide ((20 : Int) < (nn : Int)) = false := decide_eq_false g1
        clear bA hB RX2
        go_wp2_with fail
        clear d0 d1 d2 h1 h2 g0 g1 g2
        generalize hW : wm.alloc (Obj.cells #[.int .i64 x0, .int .i64 x1, .int .i64 x2] 25) = wn at *
        generalize hw : wm.heap.size = V at *
        clear hW hw
        go_loopw [19] (fun i wr => ∃ j : Nat, j ≤ nn ∧ i = .int .i64 (j : Int) ∧ Row3 wr V (.int .i64 (E j).p) (.int .i64 (E j).k) (.int .i64 (E j).r) ∧ Below V wn wr) (fun i _ => nn - (intOf i).toNat)
        case atStart => exact ⟨0, by omega, rfl, by rw [FZ.out]; exact RW, Below.refl _ _⟩
        case round => as_aux_lemma =>
          clear RW
          obtain ⟨j, hj, rfl, RN, hK⟩ := hrel
          have RX := RX3.lowB hK lX
          have hB := hB3.trans (hK.mono sm)
          clear RX3 hB3
          have hle := FL.out j (by omega)
          have hok2 := FO.out j
          have hS := FS.out j
          have lV := RN.lt
          generalize hy : E j = y at *
          obtain ⟨y0, y1, y2⟩ := y
          dsimp only at RN
          have n0 := RN.c0
          have n1 := RN.c1
          have n2 := RN.c2
          by_cases hlt : j < nn
          · have hy0 : ¬ y0 = 0 := fun h => by
              have := (leftD_pos hok2).2.2.1 h
              omega
            have hlt' : (j : Int) < (nn : Int) := by omega
            have gy : (y0 == 0) = false := by simpa using hy0
            by_cases hy2 : y0 = 2
            · obtain ⟨e1, e2, e3, e4, e5⟩ := pull_open hok2 hy2
              have k1 := fun W => spec_DoorAfter y0 y1 y2 2 W
              have k2 := fun W => spec_DoorAfter 3 0 0 4 W
              rw [e2, e3] at k1
              rw [e4, e5, ← hS] at k2
              clear e1 e2 e3 e4 e5 hok2 hle
              clear hS
              generalize hq : E (j + 1) = q at *
              obtain ⟨q0, q1, q2⟩ := q
              have HQ := Lib.hid hq
              clear hq
              simp only [Dr.val] at k1 k2
              subst hy2
              go_wp2_with fail
              refine (k1 _).mono ?_
              rintro e w5 ⟨rfl, hb5⟩
              have RN5 := (RN.below hb5).below (Below.alloc (Below.refl _ _) (Nat.le_refl _) (Obj.cells #[.int .i64 3, .int .i64 0, .int .i64 0] 25))
              have hK5 : Below V wn (w5.alloc (Obj.cells #[.int .i64 3, .int .i64 0, .int .i64 0] 25)) := (hK.trans (hb5.mono (Nat.le_of_lt lV))).alloc (by have := (RN.below hb5).lt; omega) _
              have ne5 : w5.heap.size ≠ V := by have := (RN.below hb5).lt; omega
              clear RN hK n0 n1 n2 hb5
              have n0 := RN5.c0
              have n1 := RN5.c1
              have n2 := RN5.c2
              have f0 := RN5.f0
              have f1 := RN5.f1
              have f2 := RN5.f2
              have RN6 := RN5.set0 (x' := .int .i64 3) |>.set1 (y' := .int .i64 0) |>.set2 (z' := .int .i64 0)
              have hK6 := below_set3 (x' := .int .i64 3) (y' := .int .i64 0) (z' := .int .i64 0) hK5 (Nat.le_refl V)
              go_upto_region 41 with fail
              clear n0 n1 n2 f0 f1 f2 RN5 hK5
              generalize (((w5.alloc (Obj.cells #[.int .i64 3, .int .i64 0, .int .i64 0] 25)).setCell ⟨V, 0, none⟩ (.int .i64 3)).setCell ⟨V, 1, none⟩ (.int .i64 0)).setCell ⟨V, 2, none⟩ (.int .i64 0) = w6 at *
              have n0 := RN6.c0
              have n1 := RN6.c1
              have n2 := RN6.c2
              go_wp2_with fail
              refine (k2 _).mono ?_
              rintro e w7 ⟨rfl, hb7⟩
              have RN8 := (RN6.below hb7).below (Below.alloc (Below.refl _ _) (Nat.le_refl _) (Obj.cells #[.int .i64 q0, .int .i64 q1, .int .i64 q2] 25))
              have lt8 := (RN6.below hb7).lt
              have hK8 : Below V wn (w7.alloc (Obj.cells #[.int .i64 q0, .int .i64 q1, .int .i64 q2] 25)) := (hK6.trans (hb7.mono (Nat.le_of_lt RN6.lt))).alloc (by omega) _
              have ne8 : w7.heap.size ≠ V := by omega
              clear RN6 hK6 n0 n1 n2 hb7
              have RM := Row3.made w7 (.int .i64 q0) (.int .i64 q1) (.int .i64 q2) 25
              go_upto_region 44 with fail
              generalize w7.alloc (Obj.cells #[.int .i64 q0, .int .i64 q1, .int .i64 q2] 25) = w8 at *
              generalize w7.heap.size = M at *
              have n0 := RN8.c0
              have n1 := RN8.c1
              have n2 := RN8.c2
              have f0 := RN8.f0
              have f1 := RN8.f1
              have f2 := RN8.f2
              have m0 := RM.c0
              have m1 := RM.c1
              have m2 := RM.c2
              go_wp2_with fail
              go_roundw
              case rel => exact ⟨j + 1, by omega, by go_num, by rw [HQ.out]; exact RN8.set0.set1.set2, below_set3 hK8 (Nat.le_refl V)⟩
              case measure => simp [intOf]; omega
            · obtain ⟨e1, e2⟩ := pull_else hok2 hy2
              have gy2 : (y0 == 2) = false := by simpa using hy2
              have k2 := fun W => spec_DoorAfter y0 y1 y2 4 W
              rw [e1, e2, ← hS] at k2
              clear e1 e2 hok2 hle hS
              generalize hq : E (j + 1) = q at *
              obtain ⟨q0, q1, q2⟩ := q
              have HQ := Lib.hid hq
              clear hq
              simp only [Dr.val] at k2
              have RN6 := RN
              have hK6 := hK
              clear RN hK n0 n1 n2
              have n0 := RN6.c0
              have n1 := RN6.c1
              have n2 := RN6.c2
              go_wp2_with fail
              refine (k2 _).mono ?_
              rintro e w7 ⟨rfl, hb7⟩
              have RN8 := (RN6.below hb7).below (Below.alloc (Below.refl _ _) (Nat.le_refl _) (Obj.cells #[.int .i64 q0, .int .i64 q1, .int .i64 q2] 25))
              have lt8 := (RN6.below hb7).lt
              have hK8 : Below V wn (w7.alloc (Obj.cells #[.int .i64 q0, .int .i64 q1, .int .i64 q2] 25)) := (hK6.trans (hb7.mono (Nat.le_of_lt RN6.lt))).alloc (by omega) _
              have ne8 : w7.heap.size ≠ V := by omega
              clear RN6 hK6 n0 n1 n2 hb7
              have RM := Row3.made w7 (.int .i64 q0) (.int .i64 q1) (.int .i64 q2) 25
              go_upto_region 44 with fail
              generalize w7.alloc (Obj.cells #[.int .i64 q0, .int .i64 q1, .int .i64 q2] 25) = w8 at *
              generalize w7.heap.size = M at *
              have n0 := RN8.c0
              have n1 := RN8.c1
              have n2 := RN8.c2
              have f0 := RN8.f0
              have f1 := RN8.f1
              have f2 := RN8.f2
              have m0 := RM.c0
              have m1 := RM.c1
              have m2 := RM.c2
              go_wp2_with fail
              go_roundw
              case rel => exact ⟨j + 1, by omega, by go_num, by rw [HQ.out]; exact RN8.set0.set1.set2, below_set3 hK8 (Nat.le_refl V)⟩
              case measure => simp [intOf]; omega
          · obtain rfl : j = nn := by omega
            have hy0 : y0 = 0 := (leftD_pos hok2).2.2.2 (by omega)
            subst hy0
            clear hle hok2 hS hj hlt hy FL FO FS
            have kd := fun W h => impl_DoorText x0 x1 x2 W h
            rw [show doorText x0 x1 x2 = doorTx x0 x1 x2 by unfold doorText; rw [if_pos hx0]] at kd
            have kr := fun W h => impl_ReadDoor (doorTx x0 x1 x2) x0 x1 x2 true W (by
              have := door_small hx0
              omega) (Or.inl ⟨rfl, hx0, rfl⟩) h
            generalize doorTx x0 x1 x2 = T at *
            have d0 := RX.c0
            have d1 := RX.c1
            have d2 := RX.c2
            have kQ := fun W => run_eq_Door_same x0 x1 x2 W
            go_wp2_with fail
            refine (kd _ (HT.out.below hB)).mono ?_
            rintro e w5 ⟨rfl, hb5⟩
            have RN5 := RN.below hb5
            have RX5 := RX.below hb5
            have hB5 := hB.trans (hb5.mono hB.size)
            clear RN RX hB hb5 hK d0 d1 d2 kd n0 n1 n2
            go_wp2_with fail
            refine (kr _ (HT.out.below hB5)).mono ?_
            rintro e w6 ⟨rfl, hb6⟩
            have RN6 := RN5.below hb6
            have RX6 := RX5.below hb6
            have hB6 := hB5.trans (hb6.mono hB5.size)
            clear RN5 RX5 hB5 hb6 kr
            have bA : Below w6.heap.size w6 (w6.alloc (Obj.cells #[.int .i64 x0, .int .i64 x1, .int .i64 x2] 25)) := Below.alloc (Below.refl _ _) (Nat.le_refl _) _
            have RY := Row3.made w6 (.int .i64 x0) (.int .i64 x1) (.int .i64 x2) 25
            have RN7 := RN6.below bA
            have RX7 := RX6.below bA
            have hB7 := hB6.trans (bA.mono hB6.size)
            clear RN6 RX6 hB6 bA
            go_upto_region 46 with fail
            generalize w6.alloc (Obj.cells #[.int .i64 x0, .int .i64 x1, .int .i64 x2] 25) = w7 at *
            generalize w6.heap.size = Y at *
            have n0 := RN7.c0
            have d0 := RX7.c0
            have d1 := RX7.c1
            have d2 := RX7.c2
            have e0 := RY.c0
            have e1 := RY.c1
            have e2 := RY.c2
            go_wp2_with fail
            go_returns
            exact ⟨rfl, hB7⟩
  · by_cases h0 : 1048576 < n0
    · rw [decide_eq_true (show (1048576 : Int) < (n0 : Int) by omega)] at kl0
      clear kl1
      go_enter Tryd.func3, Tryd.ntmps3
      go_wp2_with fail
      refine (kl0 _).mono ?_
      rintro e w' ⟨rfl, rfl⟩
      go_wp2_with fail
      go_returns
      exact ⟨rfl, Below.refl _ _⟩
    · rw [decide_eq_false (show ¬ (1048576 : Int) < (n0 : Int) by omega)] at kl0
      rw [decide_eq_true (show (1048576 : Int) < (n1 : Int) by omega)] at kl1
      go_enter Tryd.func3, Tryd.ntmps3
      go_wp2_with fail
      refine (kl0 _).mono ?_
      rintro e w' ⟨rfl, rfl⟩
      go_wp2_with fail
      refine (kl1 _).mono ?_
      rintro e w' ⟨rfl, rfl⟩
      go_wp2_with fail
      go_returns
      exact ⟨rfl, Below.refl _ _⟩

end Go.Proofs.YtdhjnpjemaofoaaDoor
