/-
  Contracts: the inputs of the law of motors drawn from bytes.
-/
import Derived.Test.YtejhngkbkcalaaaGreatDoorDm
namespace Go.Proofs.YtejhngkbkcalaaaGreatDoor
open Go.RowKit
set_option linter.unusedVariables false
set_option linter.unusedSimpArgs false

theorem keep_row3m (w : World) (g : Nat) (x y z : Value) : Keep g (g + 1) w (((w.setCell ⟨g, 0, none⟩ x).setCell ⟨g, 1, none⟩ y).setCell ⟨g, 2, none⟩ z) :=
  (((Keep.refl g (g + 1) w).set (Nat.le_refl _) (Nat.lt_succ_self _)).set (Nat.le_refl _) (Nat.lt_succ_self _)).set (Nat.le_refl _) (Nat.lt_succ_self _)

set_option maxHeartbeats 1000000 in
theorem spec_DrawSpeedWith (a : Option Addr) (n c : Nat) (w : World) (h : BytesAt w a n) (hn : n ≤ 1048576) :
    Calls Tryz.prog 5 #[.slice a n c] w fun e w' => ∃ p k r v, e = .returned (.tuple #[.agg #[.int .i64 p, .int .i64 k, .int .i64 r], .int .i64 v]) ∧ Below w.heap.size w w' := by
  have H := Lib.hid h
  clear h
  go_enter Tryz.func5, Tryz.ntmps5
  have R0 := Row3.made w (.int .i64 0) (.int .i64 0) (.int .i64 0) 25
  have H0 := H.out.below (Below.alloc (Below.refl _ _) (Nat.le_refl _) (Obj.cells #[.int .i64 0, .int .i64 0, .int .i64 0] 25))
  have b0 : Below w.heap.size w (w.alloc (Obj.cells #[.int .i64 0, .int .i64 0, .int .i64 0] 25)) := Below.alloc (Below.refl _ _) (Nat.le_refl _) _
  go_wp2_with fail
  clear H
  generalize w.alloc (Obj.cells #[.int .i64 0, .int .i64 0, .int .i64 0] 25) = w0 at *
  generalize hX : w.heap.size = X at *
  have s0 := R0.lt
  refine (spec_l00From a n c _ H0 hn).mono ?_
  rintro e w1 ⟨g, rfl, hg, HS, hb⟩
  have R1 := R0.below hb
  have b1 := b0.trans (hb.mono (by omega))
  have s1 := R1.lt
  have lg := HS.lt
  have gX : X < g := by omega
  clear R0 b0 hb H0
  go_wp2_with fail
  refine (spec_l10Draw g 0 _ (by omega) HS).mono ?_
  rintro e w2 ⟨p, k, r, A2, rfl, a0, a1, H2, K2⟩
  have R2 := R1.keepm K2 (by omega)
  have b2 := b1.trans (K2.below (by omega) (by omega))
  have t2 := K2.size
  have bA : Below w2.heap.size w2 (w2.alloc (Obj.cells #[.int .i64 p, .int .i64 k, .int .i64 r] 25)) := Below.alloc (Below.refl _ _) (Nat.le_refl _) _
  have R3 := R2.below bA
  have R4 := Row3.made w2 (.int .i64 p) (.int .i64 k) (.int .i64 r) 25
  have H3 := H2.below bA
  have b3 := b2.trans (bA.mono (by omega))
  clear HS K2 R1 b1 R2 b2 H2 bA
  go_wp2_with fail
  generalize w2.alloc (Obj.cells #[.int .i64 p, .int .i64 k, .int .i64 r] 25) = w3 at *
  generalize hD : w2.heap.size = D at *
  have l3 := R4.lt
  have gD : g < D := by omega
  have XD : X < D := by omega
  have c0 := R4.c0
  have c1 := R4.c1
  have c2 := R4.c2
  refine wp_region_any (by kernel_rfl) ?_
  change wpAny _ _ _ _ _ _ _ (World.drew _)
  (refine wpAny_take (i := 1) (v := ?_) rfl (by kernel_rfl) (by kernel_rfl) (by kernel_rfl) (fun _ _ _ h => h) (Or.inl ⟨by rfl, ?_⟩) ?_; rotate_left; (intro w; go_simp; try (with_reducible rfl)))
  refine wpAny_ready (rs := [0, 2]) (by kernel_rfl) (by simp) ?_
  refine AllReady.cons rfl (fun K hK => ?_) (AllReady.cons rfl (fun K hK => ?_) AllReady.nil)
  · go_simp
    (refine hK _ _ ?_; clear hK K)
    refine wpAny_ready (rs := [2]) (by kernel_rfl) (by simp) ?_
    refine AllReady.cons rfl (fun K hK => ?_) AllReady.nil
    go_simp
    refine (spec_l10DrawForce g A2 _ (by omega) H3.drew).mono ?_
    rintro e w4 ⟨v, A5, rfl, a6, a7, H5, K5⟩
    have K6 : Keep g (g + 1) w3 w4 := (Keep.of_below (Below.drew (Below.refl _ _))).trans K5
    have R5 := R3.keepm K6 (by omega)
    have R6 := R4.keepm K6 (by omega)
    have b5 := b3.trans (K6.below (by omega) (by omega))
    clear R3 R4 b3 K5 K6 H3 c0 c1 c2
    refine hK _ _ ?_
    clear hK K
    have f0 := R5.f0
    have f1 := R5.f1
    have f2 := R5.f2
    have e0 := R5.c0
    have e1 := R5.c1
    have e2 := R5.c2
    have b6 := below_set3 (x' := .int .i64 p) (y' := .int .i64 k) (z' := .int .i64 r) b5 (Nat.le_refl X)
    refine wpAny_tail 3 (by kernel_rfl) (by kernel_rfl) ?_
    simp only [List.drop_succ_cons, List.drop_zero]
    go_wp2_with fail
    refine bodyPost_ret (by simp [results, Tryz.results5, go_sem, *]; try rfl) rfl ?_
    exact ⟨p, k, r, v, rfl, by rw [hX]; exact b6⟩
  · go_simp
    refine (spec_l10DrawForce g A2 _ (by omega) H3.drew).mono ?_
    rintro e w4 ⟨v, A5, rfl, a6, a7, H5, K5⟩
    have K6 : Keep g (g + 1) w3 w4 := (Keep.of_below (Below.drew (Below.refl _ _))).trans K5
    have R5 := R3.keepm K6 (by omega)
    have R6 := R4.keepm K6 (by omega)
    have b5 := b3.trans (K6.below (by omega) (by omega))
    clear R3 R4 b3 K5 K6 H3 c0 c1 c2
    refine hK _ _ ?_
    clear hK K
    refine wpAny_ready (rs := [0]) (by kernel_rfl) (by simp) ?_
    refine AllReady.cons rfl (fun K hK => ?_) AllReady.nil
    have c0 := R6.c0
    have c1 := R6.c1
    have c2 := R6.c2
    go_simp
    (refine hK _ _ ?_; clear hK K)
    clear c0 c1 c2
    have f0 := R5.f0
    have f1 := R5.f1
    have f2 := R5.f2
    have e0 := R5.c0
    have e1 := R5.c1
    have e2 := R5.c2
    have b6 := below_set3 (x' := .int .i64 p) (y' := .int .i64 k) (z' := .int .i64 r) b5 (Nat.le_refl X)
    refine wpAny_tail 3 (by kernel_rfl) (by kernel_rfl) ?_
    simp only [List.drop_succ_cons, List.drop_zero]
    go_wp2_with fail
    refine bodyPost_ret (by simp [results, Tryz.results5, go_sem, *]; try rfl) rfl ?_
    exact ⟨p, k, r, v, rfl, by rw [hX]; exact b6⟩

set_option maxHeartbeats 2000000 in
theorem spec_DrawEnergyFor (a : Option Addr) (n c : Nat) (w : World) (h : BytesAt w a n) (hn : n ≤ 1048576) :
    Calls Tryz.prog 8 #[.slice a n c] w fun e w' => ∃ p k r aF nF cF F s t, e = .returned (.tuple #[.agg #[.int .i64 p, .int .i64 k, .int .i64 r], .slice aF nF cF, .int .i64 s, .int .i64 t]) ∧ nF ≤ 61 ∧ IntsAt w' aF nF F ∧ Below w.heap.size w w' := by
  have H := Lib.hid h
  clear h
  go_enter Tryz.func8, Tryz.ntmps8
  have R0 := Row3.made w (.int .i64 0) (.int .i64 0) (.int .i64 0) 25
  have H0 := H.out.below (Below.alloc (Below.refl _ _) (Nat.le_refl _) (Obj.cells #[.int .i64 0, .int .i64 0, .int .i64 0] 25))
  have b0 : Below w.heap.size w (w.alloc (Obj.cells #[.int .i64 0, .int .i64 0, .int .i64 0] 25)) := Below.alloc (Below.refl _ _) (Nat.le_refl _) _
  go_wp2_with fail
  clear H
  generalize w.alloc (Obj.cells #[.int .i64 0, .int .i64 0, .int .i64 0] 25) = w0 at *
  generalize hX : w.heap.size = X at *
  have s0 := R0.lt
  refine (spec_l00From a n c _ H0 hn).mono ?_
  rintro e w1 ⟨g, rfl, hg, HS, hb⟩
  have R1 := R0.below hb
  have b1 := b0.trans (hb.mono (by omega))
  have s1 := R1.lt
  have lg := HS.lt
  have gX : X < g := by omega
  clear R0 b0 hb H0
  go_wp2_with fail
  refine (spec_l10Draw g 0 _ (by omega) HS).mono ?_
  rintro e w2 ⟨p, k, r, A2, rfl, a0, a1, H2, K2⟩
  have R2 := R1.keepm K2 (by omega)
  have b2 := b1.trans (K2.below (by omega) (by omega))
  have t2 := K2.size
  have bA : Below w2.heap.size w2 (w2.alloc (Obj.cells #[.int .i64 p, .int .i64 k, .int .i64 r] 25)) := Below.alloc (Below.refl _ _) (Nat.le_refl _) _
  have R3 := R2.below bA
  have R4 := Row3.made w2 (.int .i64 p) (.int .i64 k) (.int .i64 r) 25
  have H3 := H2.below bA
  have b3 := b2.trans (bA.mono (by omega))
  clear HS K2 R1 b1 R2 b2 H2 bA
  go_wp2_with fail
  generalize w2.alloc (Obj.cells #[.int .i64 p, .int .i64 k, .int .i64 r] 25) = w3 at *
  generalize hD : w2.heap.size = D at *
  have l3 := R4.lt
  have gD : g < D := by omega
  have XD : X < D := by omega
  refine (spec_l10DrawForces g A2 _ (by omega) H3).mono ?_
  rintro e w4 ⟨v0, A4, rfl, ⟨aF, nF, cF, F, rfl, n61, -, -, hO, -⟩, a2, a3, H4, K4⟩
  have R5 := R3.keepm K4 (by omega)
  have R6 := R4.keepm K4 (by omega)
  have b4 := b3.trans (K4.below (by omega) (by omega))
  have s4 := K4.size
  have l4 := R6.lt
  have x3 := R4.lt
  generalize hB0 : w3.heap.size = B0 at *
  clear R3 R4 b3 K4 H3
  go_wp2_with fail
  refine (spec_among g A4 w4.heap.size 0 7 7 (fun j => ([0, 500, 1000, 2000, 6000, 20000, 20001] : List Int).getD j 0) _ (H4.below (Below.alloc (Below.refl _ _) (Nat.le_refl _) _)) (by omega) (fun j hj => by
    rcases (show j = 0 ∨ j = 1 ∨ j = 2 ∨ j = 3 ∨ j = 4 ∨ j = 5 ∨ j = 6 by omega) with rfl | rfl | rfl | rfl | rfl | rfl | rfl
    all_goals go_cell) (by simp) (by omega) (by omega) (by omega)).mono ?_
  rintro e w5 ⟨jj, A5, rfl, hj, a8, a9, H5, K5⟩
  have bA : Below w4.heap.size w4 (w4.alloc (Obj.cells #[.int .i64 0, .int .i64 500, .int .i64 1000, .int .i64 2000, .int .i64 6000, .int .i64 20000, .int .i64 20001] 2)) := Below.alloc (Below.refl _ _) (Nat.le_refl _) _
  have R3 := (R5.below bA).keepm K5 (by omega)
  have R4 := (R6.below bA).keepm K5 (by omega)
  have b3 := (b4.trans (bA.mono (by omega))).trans (K5.below (by omega) (by simp; omega))
  have hO3 := ((((hO.below bA).mono (Nat.le_refl _) bA.size).keep K5 (by omega)).mono (Nat.le_refl _) K5.size)
  have H3 := H5
  generalize ([0, 500, 1000, 2000, 6000, 20000, 20001] : List Int).getD jj 0 = sp at *
  clear R5 R6 b4 hO H4 H5 K5 bA
  have l5 := R4.lt
  have l6 := b3.size
  generalize w5 = w3 at *
  go_wp2_with fail
  have c0 := R4.c0
  have c1 := R4.c1
  have c2 := R4.c2
  refine wp_region_any (by kernel_rfl) ?_
  change wpAny _ _ _ _ _ _ _ (World.drew _)
  (refine wpAny_take (i := 3) (v := ?_) rfl (by kernel_rfl) (by kernel_rfl) (by kernel_rfl) (fun _ _ _ h => h) (Or.inl ⟨by rfl, ?_⟩) ?_; rotate_left; (intro w; go_simp; try (with_reducible rfl)))
  (refine wpAny_take (i := 1) (v := ?_) rfl (by kernel_rfl) (by kernel_rfl) (by kernel_rfl) (fun _ _ _ h => h) (Or.inl ⟨by rfl, ?_⟩) ?_; rotate_left; (intro w; go_simp; try (with_reducible rfl)))
  (refine wpAny_take (i := 2) (v := ?_) rfl (by kernel_rfl) (by kernel_rfl) (by kernel_rfl) (fun _ _ _ h => h) (Or.inl ⟨by rfl, ?_⟩) ?_; rotate_left; (intro w; go_simp; try (with_reducible rfl)))
  refine wpAny_ready (rs := [0, 4]) (by kernel_rfl) (by simp) ?_
  refine AllReady.cons rfl (fun K hK => ?_) (AllReady.cons rfl (fun K hK => ?_) AllReady.nil)
  · go_simp
    (refine hK _ _ ?_; clear hK K)
    refine wpAny_ready (rs := [4]) (by kernel_rfl) (by simp) ?_
    refine AllReady.cons rfl (fun K hK => ?_) AllReady.nil
    go_simp
    refine (spec_l10DrawSeconds g A5 _ (by omega) H3.drew).mono ?_
    rintro e w4 ⟨v, A5, rfl, a6, a7, H5, K5⟩
    have K6 : Keep g (g + 1) w3 w4 := (Keep.of_below (Below.drew (Below.refl _ _))).trans K5
    have R5 := R3.keepm K6 (by omega)
    have R6 := R4.keepm K6 (by omega)
    have b5 := b3.trans (K6.below (by omega) (by omega))
    have hO5 := (hO3.keep K6 (by omega)).mono (Nat.le_refl _) K6.size
    have hO6 := hO5.keep (keep_row3 w4 X (.int .i64 p) (.int .i64 k) (.int .i64 r)) (by omega)
    clear hO3 hO5 R3 R4 b3 K5 K6 H3 c0 c1 c2
    refine hK _ _ ?_
    clear hK K
    have f0 := R5.f0
    have f1 := R5.f1
    have f2 := R5.f2
    have e0 := R5.c0
    have e1 := R5.c1
    have e2 := R5.c2
    have b6 := below_set3 (x' := .int .i64 p) (y' := .int .i64 k) (z' := .int .i64 r) b5 (Nat.le_refl X)
    refine wpAny_tail 5 (by kernel_rfl) (by kernel_rfl) ?_
    simp only [List.drop_succ_cons, List.drop_zero]
    go_wp2_with fail
    refine bodyPost_ret (by simp [results, Tryz.results8, go_sem, *]; try rfl) rfl ?_
    exact ⟨p, k, r, aF, nF, cF, F, sp, v, rfl, n61, hO6.ints, by rw [hX]; exact b6⟩
  · go_simp
    refine (spec_l10DrawSeconds g A5 _ (by omega) H3.drew).mono ?_
    rintro e w4 ⟨v, A5, rfl, a6, a7, H5, K5⟩
    have K6 : Keep g (g + 1) w3 w4 := (Keep.of_below (Below.drew (Below.refl _ _))).trans K5
    have R5 := R3.keepm K6 (by omega)
    have R6 := R4.keepm K6 (by omega)
    have b5 := b3.trans (K6.below (by omega) (by omega))
    have hO5 := (hO3.keep K6 (by omega)).mono (Nat.le_refl _) K6.size
    have hO6 := hO5.keep (keep_row3 w4 X (.int .i64 p) (.int .i64 k) (.int .i64 r)) (by omega)
    clear hO3 hO5 R3 R4 b3 K5 K6 H3 c0 c1 c2
    refine hK _ _ ?_
    clear hK K
    refine wpAny_ready (rs := [0]) (by kernel_rfl) (by simp) ?_
    refine AllReady.cons rfl (fun K hK => ?_) AllReady.nil
    have c0 := R6.c0
    have c1 := R6.c1
    have c2 := R6.c2
    go_simp
    (refine hK _ _ ?_; clear hK K)
    clear c0 c1 c2
    have f0 := R5.f0
    have f1 := R5.f1
    have f2 := R5.f2
    have e0 := R5.c0
    have e1 := R5.c1
    have e2 := R5.c2
    have b6 := below_set3 (x' := .int .i64 p) (y' := .int .i64 k) (z' := .int .i64 r) b5 (Nat.le_refl X)
    refine wpAny_tail 5 (by kernel_rfl) (by kernel_rfl) ?_
    simp only [List.drop_succ_cons, List.drop_zero]
    go_wp2_with fail
    refine bodyPost_ret (by simp [results, Tryz.results8, go_sem, *]; try rfl) rfl ?_
    exact ⟨p, k, r, aF, nF, cF, F, sp, v, rfl, n61, hO6.ints, by rw [hX]; exact b6⟩

end Go.Proofs.YtejhngkbkcalaaaGreatDoor
