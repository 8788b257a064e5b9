/-
  Contracts: events of a door one after another.
-/
import Derived.Test.YtdhjnpjemaofoaaDoorKU
import Derived.Test.YtdhjnpjemaofoaaDoorKI
import Derived.Test.YtdhjnpjemaofoaaDoorM1
import Derived.Test.YtdhjnpjemaofoaaDoorAt
import Derived.Deep.DeepCutAuto
namespace Go.Proofs.YtdhjnpjemaofoaaDoor
open Go.RowKit
set_option linter.unusedVariables false
set_option linter.unusedSimpArgs false


set_option maxHeartbeats 4000000 in
theorem impl_doorRun (p k0 r : Int) (A : Option Addr) (n c : Nat) (Z : Nat → Int) (w : World) (hZ : IntsAt w A n Z) (hn : n ≤ 1048576) :
    Calls Tryd.prog 36 #[.agg #[.int .i64 p, .int .i64 k0, .int .i64 r], .slice A n c] w (fun e' w' => ∃ a' c', e' = .returned (.tuple #[(drO ⟨p, k0, r⟩ Z n).val, .slice a' (drL ⟨p, k0, r⟩ Z n).length c', .int .i64 (drC ⟨p, k0, r⟩ Z n)]) ∧ OwnIn w.heap.size w'.heap.size w' a' (drL ⟨p, k0, r⟩ Z n).length (fun j => .int .i64 ((drL ⟨p, k0, r⟩ Z n).getD j 0)) ∧ Below w.heap.size w w') := by
  have kv := fun W => impl_ValidDoor p k0 r W
  have kc := fun W h => impl_doorRun_1_contains A n c Z W h hn
  rw [show any (fun j => !inB (Z j) 1 4) n = badDv Z n from rfl] at kc
  cases h1 : validDoor p k0 r
  · obtain ⟨e1, e2, e3⟩ := dr_x (dr_c1 (d := ⟨p, k0, r⟩) (Z := Z) (n := n) h1) (by decide)
    rw [e1, e2, e3]
    rw [h1] at kv
    clear e1 e2 e3 h1
    go_enter Tryd.func36, Tryd.ntmps36
    go_wp2_with (go_at_call 38; (with_reducible refine (kv _).mono ?_); rintro e w' ⟨rfl, hb⟩; obtain ⟨hc, hf⟩ := bcell hb; have hz : w.heap.size < w'.heap.size := (by have := hb.size; (try simp at this); omega); have hz1 : w.heap.size + 1 < w'.heap.size := (by have := hb.size; (try simp at this); omega); have hB : Below w.heap.size w w' := Below.trans (by go_grown) (hb.mono (by go_size)))
    refine bodyPost_ret (by simp [results, Tryd.results36, go_sem, *]; try rfl) rfl ?_
    exact ⟨_, _, rfl, OwnIn.none0, by go_grown⟩
  · rw [h1] at kv
    by_cases h2 : n ≤ 60
    · cases h3 : badDv Z n
      · rw [h3] at kc
        obtain ⟨e1, e2, e3⟩ := dr_ok (dr_c0 (d := ⟨p, k0, r⟩) (Z := Z) (n := n) h1 h2 h3)
        rw [e1, e2, e3]
        have hev := fun j h => inB_true.1 (badDv_at (j := j) h3 h)
        have hok := fun k => Dr.ok_fits (drE_ok (d := ⟨p, k0, r⟩) (Z := Z) h1 k)
        have HV := Lib.hid hev
        have HF := Lib.hid hok
        clear e1 e2 e3 h1 h3 hev hok
        have hn60 : ¬ (60 : Int) < (n : Int) := by omega
        go_enter Tryd.func36, Tryd.ntmps36
        go_wp2_with fail
        refine (kv _).mono ?_
        rintro e' w0 ⟨rfl, hb⟩
        have hO := (DrAt.made w 25 p k0 r).below (Below.alloc (Below.refl _ _) (Nat.le_refl _) (Obj.cells #[.int .i64 0, .int .i64 0, .int .i64 0] 25))
        have hR := DrAt.made (w.alloc (Obj.cells #[.int .i64 p, .int .i64 k0, .int .i64 r] 25)) 25 0 0 0
        rw [show (w.alloc (Obj.cells #[.int .i64 p, .int .i64 k0, .int .i64 r] 25)).heap.size = w.heap.size + 1 by simp] at hR
        replace hO := hO.below hb
        replace hR := hR.below hb
        have hB : Below w.heap.size w w0 := Below.trans (by go_grown) (hb.mono (by simp; omega))
        clear hb
        have hZ0 := hZ.below hB
        generalize hg : w.heap.size = g at *
        have HG := Lib.hid hg
        clear hg
        go_wp2_with (go_at_call 64; (with_reducible refine (kc _ hZ0).mono ?_); rintro e' w' ⟨rfl, rfl⟩)
        have hg0 := hR.lt
        go_loopw [7, 28] (fun u i wr => ∃ k : Nat, k ≤ n ∧ i = .int .i64 k ∧ AppOf w0.heap.size wr u (refL ⟨p, k0, r⟩ Z k) ∧ DrAt wr g (drE ⟨p, k0, r⟩ Z k) ∧ DrAt wr (g + 1) ⟨0, 0, 0⟩ ∧ Below g w wr ∧ w0.heap.size ≤ wr.heap.size) (fun _ i _ => n - (intOf i).toNat)
        case atStart => exact ⟨0, by omega, rfl, AppOf.nil _ _, hO, hR, hB, Nat.le_refl _⟩
        case round =>
          clear hO hR hB hZ0
          obtain ⟨k, hk, rfl, hA, hO, hR, hB, hs⟩ := hrel
          have hlen : (refL ⟨p, k0, r⟩ Z k).length ≤ 16777216 := Nat.le_trans (refL_len _ _ _) (by omega)
          have hl := hO.lt
          by_cases hlt : k < n
          · obtain ⟨b', o', rfl, hb', hc⟩ := hZ (by omega)
            rw [HG.out] at hb'
            have ck := (hB.cell (p := ⟨b', o' + k, none⟩) hb').trans (hc k hlt)
            obtain ⟨v1, v2⟩ := HV.out k hlt
            have hfi := HF.out k
            have hno := fun h => refL_no (d := ⟨p, k0, r⟩) (Z := Z) (k := k) h
            have hyes := fun h => refL_yes (d := ⟨p, k0, r⟩) (Z := Z) (k := k) h
            have hst : drE ⟨p, k0, r⟩ Z (k + 1) = doorStep (drE ⟨p, k0, r⟩ Z k) (Z k) := rfl
            clear hc
            generalize drE ⟨p, k0, r⟩ Z k = y at *
            generalize refL ⟨p, k0, r⟩ Z k = L at *
            obtain ⟨y0, y3, y2⟩ := y
            have kF := fun W => impl_doorAfter y0 y3 y2 (Z k) W hfi v1 v2
            generalize Z k = ev at *
            have d0 := hO.c0
            have d1 := hO.c1
            have d2 := hO.c2
            dsimp only at d0 d1 d2
            cases hal : doorMay ⟨y0, y3, y2⟩ ev
            · have e1 := hno hal
              have e2 : doorStep ⟨y0, y3, y2⟩ ev = ⟨y0, y3, y2⟩ := by unfold doorStep; rw [hal]; rfl
              rw [e2, hal] at kF
              rw [e2] at hst
              have E1 := Lib.hid e1
              have E2 := Lib.hid hst
              clear hno hyes hst e1 e2 hal
              simp only [Dr.val] at kF
              go_wp2_with (first | (go_at_call 40; (with_reducible refine (kF _).mono ?_); rintro e' w1 ⟨rfl, hb⟩; replace hO := hO.below hb; replace hR := hR.below hb; replace hB := hB.trans (hb.mono (Nat.le_of_lt hl)); replace hA := hA.below hb; replace hs := Nat.le_trans hs hb.size; replace hl := hO.lt; have d0 := hO.c0; have d1 := hO.c1; have d2 := hO.c2; have f0 := hO.fr (show 0 < 3 by decide); have f1 := hO.fr (show 1 < 3 by decide); have f2 := hO.fr (show 2 < 3 by decide); clear hb) | (at_builtin; refine app_intK _ rfl _ _ rfl w0.heap.size _ _ rfl (hA.below (by go_grown)) _ 1 (k : Int) rfl (by go_cell) hlen (by simp; omega) ?_; intro v' w3 hA' hw1 hk1; have q0 := (cell_blk (i := 0) (hk1 w1.heap.size (by simp; omega) (hA.other (Nat.le_refl _)))).trans (show _ = some (.int .i64 y0) by go_cell); have q1 := (cell_blk (i := 1) (hk1 w1.heap.size (by simp; omega) (hA.other (Nat.le_refl _)))).trans (show _ = some (.int .i64 y3) by go_cell); have q2 := (cell_blk (i := 2) (hk1 w1.heap.size (by simp; omega) (hA.other (Nat.le_refl _)))).trans (show _ = some (.int .i64 y2) by go_cell); have hO3 := (hO.below (show Below w1.heap.size w1 _ by go_grown)).low hw1 (by omega); have hR3 := (hR.below (show Below w1.heap.size w1 _ by go_grown)).low hw1 (by omega); have hB3 : Below g w w3 := (hB.trans (show Below g w1 _ by go_grown)).trans (hw1.mono (by omega)); have hs3 : w0.heap.size ≤ w3.heap.size := Nat.le_trans (by simp; omega) hw1.size; have hl3 := hO3.lt; have g0 := hO3.fr (show 0 < 3 by decide); have p0 := hO3.c0; have g1 := hO3.fr (show 1 < 3 by decide); have p1 := hO3.c1; have g2 := hO3.fr (show 2 < 3 by decide); have p2 := hO3.c2; dsimp only at p0 p1 p2; clear hk1))
              go_roundw
              case rel => exact ⟨k + 1, by omega, by go_num, by rw [E1.out]; exact hA'.put3 (by omega) _ _ _, by rw [E2.out]; exact hO3.put y0 y3 y2, hR3.keep (keep_put3 _ g _ _ _) (by omega), hB3.trans ((keep_put3 _ g _ _ _).below (Nat.le_refl _) (by omega)), by simp [World.setCell]; omega⟩
              case measure => simp [intOf]; omega
            · have e1 := hyes hal
              rw [hal] at kF
              generalize doorStep ⟨y0, y3, y2⟩ ev = yn at *
              obtain ⟨r0, r1, r2⟩ := yn
              have E1 := Lib.hid e1
              have E2 := Lib.hid hst
              clear hno hyes hst e1 hal
              simp only [Dr.val] at kF
              go_wp2_with (go_at_call 40; (with_reducible refine (kF _).mono ?_); rintro e' w1 ⟨rfl, hb⟩; replace hO := hO.below hb; replace hR := hR.below hb; replace hB := hB.trans (hb.mono (Nat.le_of_lt hl)); replace hA := hA.below hb; replace hs := Nat.le_trans hs hb.size; replace hl := hO.lt; have d0 := hO.c0; have d1 := hO.c1; have d2 := hO.c2; have f0 := hO.fr (show 0 < 3 by decide); have f1 := hO.fr (show 1 < 3 by decide); have f2 := hO.fr (show 2 < 3 by decide); clear hb)
              go_roundw
              case rel => exact ⟨k + 1, by omega, by go_num, by rw [E1.out]; exact (hA.put3 (by omega) _ _ _).alloc _, by rw [E2.out]; exact (hO.put r0 r1 r2).below (Below.alloc (Below.refl _ _) (Nat.le_refl _) _), (hR.keep (keep_put3 _ g _ _ _) (by omega)).below (Below.alloc (Below.refl _ _) (Nat.le_refl _) _), (hB.trans ((keep_put3 _ g _ _ _).below (Nat.le_refl _) (by omega))).trans (Below.alloc (Below.refl _ _) (by rw [size_put3]; omega) _), by simp [World.setCell]; omega⟩
              case measure => simp [intOf]; omega
          · obtain rfl : k = n := by omega
            generalize hyy : drE ⟨p, k0, r⟩ Z k = y at *
            have HYY := Lib.hid hyy
            clear hyy
            obtain ⟨y0, y3, y2⟩ := y
            have d0 := hO.c0
            have d1 := hO.c1
            have d2 := hO.c2
            have f0 := hR.fr (show 0 < 3 by decide)
            have f1 := hR.fr (show 1 < 3 by decide)
            have f2 := hR.fr (show 2 < 3 by decide)
            have r0 := hR.c0
            have r1 := hR.c1
            have r2 := hR.c2
            dsimp only at d0 d1 d2 r0 r1 r2
            have hne : g ≠ g + 1 := by omega
            obtain ⟨a2, c2, rfl, ho⟩ := hA.out
            go_wp2
            refine bodyPost_ret (by simp [results, Tryd.results36, go_sem, *]; try rfl) rfl ?_
            refine ⟨_, _, by rw [HYY.out]; rfl, ?_, ?_⟩
            · rw [HG.out]
              exact (OwnIn.keep ho (keep_put3 _ (g + 1) _ _ _) (Or.inr (by omega))).mono (by omega) (by simp [World.setCell])
            · rw [HG.out]
              exact hB.trans ((keep_put3 _ (g + 1) _ _ _).below (by omega) (by omega))
      · rw [h3] at kc
        obtain ⟨e1, e2, e3⟩ := dr_x (dr_c2b (d := ⟨p, k0, r⟩) (Z := Z) (n := n) h1 h2 h3) (by decide)
        rw [e1, e2, e3]
        clear e1 e2 e3 h1 h3
        have hn60 : ¬ (60 : Int) < (n : Int) := by omega
        go_enter Tryd.func36, Tryd.ntmps36
        go_wp2_with (first | (go_at_call 38; (with_reducible refine (kv _).mono ?_); rintro e w' ⟨rfl, hb⟩; obtain ⟨hc, hf⟩ := bcell hb; have hz : w.heap.size < w'.heap.size := (by have := hb.size; (try simp at this); omega); have hz1 : w.heap.size + 1 < w'.heap.size := (by have := hb.size; (try simp at this); omega); have hB : Below w.heap.size w w' := Below.trans (by go_grown) (hb.mono (by go_size))) | (go_at_call 64; (with_reducible refine (kc _ (hZ.below hB)).mono ?_); rintro e' w' ⟨rfl, rfl⟩))
        refine bodyPost_ret (by simp [results, Tryd.results36, go_sem, *]; try rfl) rfl ?_
        exact ⟨_, _, rfl, OwnIn.none0, by go_grown⟩
    · obtain ⟨e1, e2, e3⟩ := dr_x (dr_c2n (d := ⟨p, k0, r⟩) (Z := Z) (n := n) h1 h2) (by decide)
      rw [e1, e2, e3]
      clear e1 e2 e3 h1
      have hn60 : (60 : Int) < (n : Int) := by omega
      go_enter Tryd.func36, Tryd.ntmps36
      go_wp2_with (go_at_call 38; (with_reducible refine (kv _).mono ?_); rintro e w' ⟨rfl, hb⟩; obtain ⟨hc, hf⟩ := bcell hb; have hz : w.heap.size < w'.heap.size := (by have := hb.size; (try simp at this); omega); have hz1 : w.heap.size + 1 < w'.heap.size := (by have := hb.size; (try simp at this); omega); have hB : Below w.heap.size w w' := Below.trans (by go_grown) (hb.mono (by go_size)))
      refine bodyPost_ret (by simp [results, Tryd.results36, go_sem, *]; try rfl) rfl ?_
      exact ⟨_, _, rfl, OwnIn.none0, by go_grown⟩

set_option maxHeartbeats 1000000 in
theorem impl_DoorRun (p k0 r : Int) (A : Option Addr) (n c : Nat) (Z : Nat → Int) (w : World) (hZ : IntsAt w A n Z) (hn : n ≤ 1048576) :
    Calls Tryd.prog 7 #[.agg #[.int .i64 p, .int .i64 k0, .int .i64 r], .slice A n c] w fun e' w' => e' = .returned (.tuple #[(drO ⟨p, k0, r⟩ Z n).val, .int .i64 (drC ⟨p, k0, r⟩ Z n)]) ∧ Below w.heap.size w w' := by
  have kr := fun W h => impl_doorRun p k0 r A n c Z W h hn
  generalize drO ⟨p, k0, r⟩ Z n = R at *
  generalize drL ⟨p, k0, r⟩ Z n = L at *
  generalize drC ⟨p, k0, r⟩ Z n = C at *
  obtain ⟨r0, r1, r2⟩ := R
  simp only [Dr.val] at *
  go_enter Tryd.func7, Tryd.ntmps7
  go_wp2_with (go_at_call 36; (with_reducible refine (kr _ (hZ.below (by go_grown))).mono ?_); rintro e' w1 ⟨a', c', rfl, ho, hb⟩; have hB : Below w.heap.size w w1 := Below.trans (by go_grown) (hb.mono (by go_size)); obtain ⟨hc, hf, hs⟩ := bkeep hb; have hsz := hb.size; simp at hsz)
  refine bodyPost_ret (by simp [results, Tryd.results7, go_sem, *]; try rfl) rfl ?_
  exact ⟨rfl, by go_grown⟩

set_option maxHeartbeats 1000000 in
theorem impl_RefusedEvents (p k0 r : Int) (A : Option Addr) (n c : Nat) (Z : Nat → Int) (w : World) (hZ : IntsAt w A n Z) (hn : n ≤ 1048576) :
    Calls Tryd.prog 8 #[.agg #[.int .i64 p, .int .i64 k0, .int .i64 r], .slice A n c] w (RetInts (drL ⟨p, k0, r⟩ Z n) (drC ⟨p, k0, r⟩ Z n) w) := by
  have kr := fun W h => impl_doorRun p k0 r A n c Z W h hn
  generalize drO ⟨p, k0, r⟩ Z n = R at *
  generalize drL ⟨p, k0, r⟩ Z n = L at *
  generalize drC ⟨p, k0, r⟩ Z n = C at *
  obtain ⟨r0, r1, r2⟩ := R
  simp only [Dr.val] at *
  go_enter Tryd.func8, Tryd.ntmps8
  go_wp2_with (go_at_call 36; (with_reducible refine (kr _ (hZ.below (by go_grown))).mono ?_); rintro e' w1 ⟨a', c', rfl, ho, hb⟩; have hB : Below w.heap.size w w1 := Below.trans (by go_grown) (hb.mono (by go_size)); obtain ⟨hc, hf, hs⟩ := bkeep hb; have hsz := hb.size; simp at hsz)
  go_returns
  exact ⟨_, _, rfl, ((ho.below (show Below w1.heap.size w1 _ by go_grown)).mono (by simp) (by simp [World.setCell])), by go_grown⟩

end Go.Proofs.YtdhjnpjemaofoaaDoor
