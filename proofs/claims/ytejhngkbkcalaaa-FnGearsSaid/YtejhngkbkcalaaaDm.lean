/-
  Contracts: motors and forces drawn from bytes.
-/
import Derived.Test.YtejhngkbkcalaaaDl
import Derived.Test.YtejhngkbkcalaaaR3
namespace Go.Proofs.Ytejhngkbkcalaaa
open Go.RowKit
set_option linter.unusedVariables false
set_option linter.unusedSimpArgs false

theorem Row3.keepm {w w' : World} {b g : Nat} {x y z : Value} (h : Row3 w b x y z) (k : Keep g (g + 1) w w') (hb : b ≠ g) : Row3 w' b x y z :=
  ⟨(k.cellk h.lt (by omega)).trans h.c0, (k.cellk h.lt (by omega)).trans h.c1, (k.cellk h.lt (by omega)).trans h.c2, (k.frozenk h.lt (by omega)).trans h.f0, (k.frozenk h.lt (by omega)).trans h.f1, (k.frozenk h.lt (by omega)).trans h.f2, Nat.lt_of_lt_of_le h.lt k.size⟩

set_option maxHeartbeats 1000000 in
theorem spec_l10DrawOk (g : Nat) (A : Int) (w : World) (hA : A ≤ 1000) (h : SrcAt w g A) :
    Calls Try.prog 49 #[.pointer (some ⟨g, 0, none⟩)] w fun e w' => ∃ p k r A', e = .returned (.agg #[.int .i64 p, .int .i64 k, .int .i64 r]) ∧ A ≤ A' ∧ A' ≤ A + 6 ∧ SrcAt w' g A' ∧ Keep g (g + 1) w w' := by
  have hg := h.lt
  have H := Lib.hid h
  clear h
  go_enter Try.func49, Try.ntmps49
  have R0 := Row3.made w (.int .i64 0) (.int .i64 0) (.int .i64 0) 25
  have H0 := H.out.below (Below.alloc (Below.refl _ _) (Nat.le_refl _) (Obj.cells #[.int .i64 0, .int .i64 0, .int .i64 0] 25))
  have K0 : Keep g (g + 1) w (w.alloc (Obj.cells #[.int .i64 0, .int .i64 0, .int .i64 0] 25)) := Keep.of_below (Below.alloc (Below.refl _ _) (Nat.le_refl _) _)
  go_wp2_with fail
  clear H
  generalize w.alloc (Obj.cells #[.int .i64 0, .int .i64 0, .int .i64 0] 25) = w0 at *
  generalize hX : w.heap.size = X at *
  have gX : g < X := by omega
  have s0 := R0.lt
  refine (spec_pick g A 300 _ H0 (by omega) (by omega)).mono ?_
  rintro e w1 ⟨x, A1, rfl, x0, x1, a0, a1, H1, K1⟩
  have x1' := x1 (by omega)
  have R1 := R0.keepm K1 (by omega)
  have K2 := K0.trans K1
  have s1 := R1.lt
  clear H0 K0 R0 s0 K1 x1
  go_wp2_with fail
  refine (spec_pick g A1 100 _ H1 (by omega) (by omega)).mono ?_
  rintro e w2 ⟨y, A2, rfl, y0, y1, a2, a3, H2, K3⟩
  have y1' := y1 (by omega)
  have R2 := R1.keepm K3 (by omega)
  have K4 := K2.trans K3
  have s2 := R2.lt
  clear H1 K2 R1 s1 K3 y1
  have R3 := Row3.made w2 (.int .i64 (1000 * (1 + x))) (.int .i64 (1000 + 500 * y)) (.int .i64 0) 25
  have R4 := R2.below (Below.alloc (Below.refl _ _) (Nat.le_refl _) (Obj.cells #[.int .i64 (1000 * (1 + x)), .int .i64 (1000 + 500 * y), .int .i64 0] 25))
  have H3 := H2.below (Below.alloc (Below.refl _ _) (Nat.le_refl _) (Obj.cells #[.int .i64 (1000 * (1 + x)), .int .i64 (1000 + 500 * y), .int .i64 0] 25))
  have K5 : Keep g (g + 1) w (w2.alloc (Obj.cells #[.int .i64 (1000 * (1 + x)), .int .i64 (1000 + 500 * y), .int .i64 0] 25)) := K4.alloc
  clear H2 K4 R2
  go_upto_region 2 with fail
  generalize w2.alloc (Obj.cells #[.int .i64 (1000 * (1 + x)), .int .i64 (1000 + 500 * y), .int .i64 0] 25) = w3 at *
  generalize 1000 * (1 + x) = P at *
  generalize 1000 + 500 * y = M at *
  generalize hY : w2.heap.size = Y at *
  have gY : g < Y := by omega
  have XY : X < Y := by omega
  go_wp2_with fail
  refine (spec_pick g A2 20 _ H3 (by omega) (by omega)).mono ?_
  rintro e w4 ⟨z, A3, rfl, z0, z1, a4, a5, H4, K6⟩
  have z1' := z1 (by omega)
  have R5 := R3.keepm K6 (by omega)
  have R6 := R4.keepm K6 (by omega)
  have K7 := K5.trans K6
  clear R3 R4 H3 K5 K6 z1
  have c2 := R5.c2
  have f2 := R5.f2
  have Ra := R5.set2 (z' := .int .i64 (20 * z))
  have Rb := R6.other (b := Y) (j := 2) (u := .int .i64 (20 * z)) (by omega)
  have H6 := H4.setUp (b := Y) (j := 2) (u := .int .i64 (20 * z)) (by omega)
  have K9 : Keep g (g + 1) w (w4.setCell ⟨Y, 2, none⟩ (.int .i64 (20 * z))) := K7.setFresh (B := 0) (by omega)
  clear R5 R6 H4 K7
  go_upto_region 3 with fail
  clear c2 f2
  generalize w4.setCell ⟨Y, 2, none⟩ (.int .i64 (20 * z)) = w6 at *
  have b0 := Ra.c0
  have b1 := Ra.c1
  have b2 := Ra.c2
  have d0 := Rb.c0
  have d1 := Rb.c1
  have d2 := Rb.c2
  have f0 := Rb.f0
  have f1 := Rb.f1
  have f2 := Rb.f2
  go_wp2_with fail
  refine bodyPost_ret (by simp [results, Try.results49, go_sem, *]; try rfl) rfl ?_
  exact ⟨_, _, _, A3, rfl, by omega, by omega, ((H6.setUp (by omega)).setUp (by omega)).setUp (by omega), ((K9.setFresh (B := 0) (by omega)).setFresh (B := 0) (by omega)).setFresh (B := 0) (by omega)⟩

set_option maxHeartbeats 2000000 in
theorem spec_l10Draw (g : Nat) (A : Int) (w : World) (hA : A ≤ 900) (h : SrcAt w g A) :
    Calls Try.prog 18 #[.pointer (some ⟨g, 0, none⟩)] w fun e w' => ∃ p k r A', e = .returned (.agg #[.int .i64 p, .int .i64 k, .int .i64 r]) ∧ A ≤ A' ∧ A' ≤ A + 12 ∧ SrcAt w' g A' ∧ Keep g (g + 1) w w' := by
  have hg := h.lt
  have H := Lib.hid h
  clear h
  go_enter Try.func18, Try.ntmps18
  have R0 := Row3.made w (.int .i64 0) (.int .i64 0) (.int .i64 0) 25
  have H0 := H.out.below (Below.alloc (Below.refl _ _) (Nat.le_refl _) (Obj.cells #[.int .i64 0, .int .i64 0, .int .i64 0] 25))
  have K0 : Keep g (g + 1) w (w.alloc (Obj.cells #[.int .i64 0, .int .i64 0, .int .i64 0] 25)) := Keep.of_below (Below.alloc (Below.refl _ _) (Nat.le_refl _) _)
  go_wp2_with fail
  clear H
  generalize w.alloc (Obj.cells #[.int .i64 0, .int .i64 0, .int .i64 0] 25) = w0 at *
  generalize hX : w.heap.size = X at *
  have gX : g < X := by omega
  have s0 := R0.lt
  refine (spec_l10DrawOk g A _ (by omega) H0).mono ?_
  rintro e w1 ⟨p, k, r, A1, rfl, a0, a1, H1, K1⟩
  have R1 := R0.keepm K1 (by omega)
  have K2 := K0.trans K1
  have s1 := R1.lt
  have R2 := R1.below (Below.alloc (Below.refl _ _) (Nat.le_refl _) (Obj.cells #[.int .i64 p, .int .i64 k, .int .i64 r] 25))
  have R3 := Row3.made w1 (.int .i64 p) (.int .i64 k) (.int .i64 r) 25
  have H2 := H1.below (Below.alloc (Below.refl _ _) (Nat.le_refl _) (Obj.cells #[.int .i64 p, .int .i64 k, .int .i64 r] 25))
  have K3 : Keep g (g + 1) w (w1.alloc (Obj.cells #[.int .i64 p, .int .i64 k, .int .i64 r] 25)) := K2.alloc
  clear H0 K0 R0 s0 R1 H1 K1 K2
  go_wp2_with fail
  generalize w1.alloc (Obj.cells #[.int .i64 p, .int .i64 k, .int .i64 r] 25) = w2 at *
  generalize hY : w1.heap.size = Y at *
  have gY : g < Y := by omega
  have XY : X < Y := by omega
  refine (spec_pick g A1 20 _ H2 (by omega) (by omega)).mono ?_
  rintro e w3 ⟨x, A2, rfl, x0, x1, a2, a3, H3, K4⟩
  have R4 := R2.keepm K4 (by omega)
  have R5 := R3.keepm K4 (by omega)
  have K5 := K3.trans K4
  clear R2 R3 H2 K3 K4 x1
  have R2 := R4
  have l5 := R5.lt
  clear R4
  by_cases e0 : x = 0
  · subst e0
    have bA : Below w3.heap.size w3 (w3.alloc (Obj.cells #[.int .i64 999, .int .i64 1000, .int .i64 10000000, .int .i64 10000001] 2)) := Below.alloc (Below.refl _ _) (Nat.le_refl _) _
    have R6 := R5.below bA
    have R7 := R2.below bA
    have K6 : Keep g (g + 1) w (w3.alloc (Obj.cells #[.int .i64 999, .int .i64 1000, .int .i64 10000000, .int .i64 10000001] 2)) := K5.alloc
    go_wp2_with fail
    refine (spec_among g A2 w3.heap.size 0 4 4 (fun j => ([999, 1000, 10000000, 10000001] : List Int).getD j 0) _ (H3.below (Below.alloc (Below.refl _ _) (Nat.le_refl _) _)) (by omega) (fun j hj => by
      rcases (show j = 0 ∨ j = 1 ∨ j = 2 ∨ j = 3 by omega) with rfl | rfl | rfl | rfl
      all_goals go_cell) (by simp) (by omega) (by omega) (by omega)).mono ?_
    rintro e w4 ⟨j, A4, rfl, hj, a6, a7, H4, K7⟩
    generalize ([999, 1000, 10000000, 10000001] : List Int).getD j 0 = z at *
    have R8 := R6.keepm K7 (by omega)
    have R9 := R7.keepm K7 (by omega)
    have K8 := K6.trans K7
    clear R6 R7 K6 K7 bA R5 R2 K5 H3
    have c0 := R8.c0
    have f0 := R8.f0
    have Ra := R8.set0 (x' := .int .i64 z)
    have Rb := R9.other (b := Y) (j := 0) (u := .int .i64 z) (by omega)
    have H6 := H4.setUp (b := Y) (j := 0) (u := .int .i64 z) (by omega)
    have K9 : Keep g (g + 1) w (w4.setCell ⟨Y, 0, none⟩ (.int .i64 z)) := K8.setFresh (B := 0) (by omega)
    clear R8 R9 H4 K8
    go_upto_region 9 with fail
    clear c0 f0
    generalize w4.setCell ⟨Y, 0, none⟩ (.int .i64 z) = w6 at *
    have b0 := Ra.c0
    have b1 := Ra.c1
    have b2 := Ra.c2
    have d0 := Rb.c0
    have d1 := Rb.c1
    have d2 := Rb.c2
    have f0 := Rb.f0
    have f1 := Rb.f1
    have f2 := Rb.f2
    go_wp2_with fail
    refine bodyPost_ret (by simp [results, Try.results18, go_sem, *]; try rfl) rfl ?_
    exact ⟨_, _, _, _, rfl, by omega, by omega, ((H6.setUp (by omega)).setUp (by omega)).setUp (by omega), ((K9.setFresh (B := 0) (by omega)).setFresh (B := 0) (by omega)).setFresh (B := 0) (by omega)⟩
  · by_cases e1 : x = 1
    · subst e1
      have bA : Below w3.heap.size w3 (w3.alloc (Obj.cells #[.int .i64 99, .int .i64 100, .int .i64 1000000, .int .i64 1000001] 2)) := Below.alloc (Below.refl _ _) (Nat.le_refl _) _
      have R6 := R5.below bA
      have R7 := R2.below bA
      have K6 : Keep g (g + 1) w (w3.alloc (Obj.cells #[.int .i64 99, .int .i64 100, .int .i64 1000000, .int .i64 1000001] 2)) := K5.alloc
      go_wp2_with fail
      refine (spec_among g A2 w3.heap.size 0 4 4 (fun j => ([99, 100, 1000000, 1000001] : List Int).getD j 0) _ (H3.below (Below.alloc (Below.refl _ _) (Nat.le_refl _) _)) (by omega) (fun j hj => by
        rcases (show j = 0 ∨ j = 1 ∨ j = 2 ∨ j = 3 by omega) with rfl | rfl | rfl | rfl
        all_goals go_cell) (by simp) (by omega) (by omega) (by omega)).mono ?_
      rintro e w4 ⟨j, A4, rfl, hj, a6, a7, H4, K7⟩
      generalize ([99, 100, 1000000, 1000001] : List Int).getD j 0 = z at *
      have R8 := R6.keepm K7 (by omega)
      have R9 := R7.keepm K7 (by omega)
      have K8 := K6.trans K7
      clear R6 R7 K6 K7 bA R5 R2 K5 H3
      have c0 := R8.c1
      have f0 := R8.f1
      have Ra := R8.set1 (y' := .int .i64 z)
      have Rb := R9.other (b := Y) (j := 1) (u := .int .i64 z) (by omega)
      have H6 := H4.setUp (b := Y) (j := 1) (u := .int .i64 z) (by omega)
      have K9 : Keep g (g + 1) w (w4.setCell ⟨Y, 1, none⟩ (.int .i64 z)) := K8.setFresh (B := 0) (by omega)
      clear R8 R9 H4 K8
      go_upto_region 9 with fail
      clear c0 f0
      generalize w4.setCell ⟨Y, 1, none⟩ (.int .i64 z) = w6 at *
      have b0 := Ra.c0
      have b1 := Ra.c1
      have b2 := Ra.c2
      have d0 := Rb.c0
      have d1 := Rb.c1
      have d2 := Rb.c2
      have f0 := Rb.f0
      have f1 := Rb.f1
      have f2 := Rb.f2
      go_wp2_with fail
      refine bodyPost_ret (by simp [results, Try.results18, go_sem, *]; try rfl) rfl ?_
      exact ⟨_, _, _, _, rfl, by omega, by omega, ((H6.setUp (by omega)).setUp (by omega)).setUp (by omega), ((K9.setFresh (B := 0) (by omega)).setFresh (B := 0) (by omega)).setFresh (B := 0) (by omega)⟩
    · by_cases e2 : x = 2
      · subst e2
        have bA : Below w3.heap.size w3 (w3.alloc (Obj.cells #[.int .i64 (-1), .int .i64 0, .int .i64 500, .int .i64 501] 2)) := Below.alloc (Below.refl _ _) (Nat.le_refl _) _
        have R6 := R5.below bA
        have R7 := R2.below bA
        have K6 : Keep g (g + 1) w (w3.alloc (Obj.cells #[.int .i64 (-1), .int .i64 0, .int .i64 500, .int .i64 501] 2)) := K5.alloc
        go_wp2_with fail
        refine (spec_among g A2 w3.heap.size 0 4 4 (fun j => ([-1, 0, 500, 501] : List Int).getD j 0) _ (H3.below (Below.alloc (Below.refl _ _) (Nat.le_refl _) _)) (by omega) (fun j hj => by
          rcases (show j = 0 ∨ j = 1 ∨ j = 2 ∨ j = 3 by omega) with rfl | rfl | rfl | rfl
          all_goals go_cell) (by simp) (by omega) (by omega) (by omega)).mono ?_
        rintro e w4 ⟨j, A4, rfl, hj, a6, a7, H4, K7⟩
        generalize ([-1, 0, 500, 501] : List Int).getD j 0 = z at *
        have R8 := R6.keepm K7 (by omega)
        have R9 := R7.keepm K7 (by omega)
        have K8 := K6.trans K7
        clear R6 R7 K6 K7 bA R5 R2 K5 H3
        have c0 := R8.c2
        have f0 := R8.f2
        have Ra := R8.set2 (z' := .int .i64 z)
        have Rb := R9.other (b := Y) (j := 2) (u := .int .i64 z) (by omega)
        have H6 := H4.setUp (b := Y) (j := 2) (u := .int .i64 z) (by omega)
        have K9 : Keep g (g + 1) w (w4.setCell ⟨Y, 2, none⟩ (.int .i64 z)) := K8.setFresh (B := 0) (by omega)
        clear R8 R9 H4 K8
        go_upto_region 9 with fail
        clear c0 f0
        generalize w4.setCell ⟨Y, 2, none⟩ (.int .i64 z) = w6 at *
        have b0 := Ra.c0
        have b1 := Ra.c1
        have b2 := Ra.c2
        have d0 := Rb.c0
        have d1 := Rb.c1
        have d2 := Rb.c2
        have f0 := Rb.f0
        have f1 := Rb.f1
        have f2 := Rb.f2
        go_wp2_with fail
        refine bodyPost_ret (by simp [results, Try.results18, go_sem, *]; try rfl) rfl ?_
        exact ⟨_, _, _, _, rfl, by omega, by omega, ((H6.setUp (by omega)).setUp (by omega)).setUp (by omega), ((K9.setFresh (B := 0) (by omega)).setFresh (B := 0) (by omega)).setFresh (B := 0) (by omega)⟩
      · have n0 : (x == 0) = false := by simpa using e0
        have n1 : (x == 1) = false := by simpa using e1
        have n2 : (x == 2) = false := by simpa using e2
        have b0 := R5.c0
        have b1 := R5.c1
        have b2 := R5.c2
        have d0 := R2.c0
        have d1 := R2.c1
        have d2 := R2.c2
        have f0 := R2.f0
        have f1 := R2.f1
        have f2 := R2.f2
        go_wp2_with fail
        refine bodyPost_ret (by simp [results, Try.results18, go_sem, *]; try rfl) rfl ?_
        exact ⟨_, _, _, _, rfl, by omega, by omega, ((H3.setUp (by omega)).setUp (by omega)).setUp (by omega), ((K5.setFresh (B := 0) (by omega)).setFresh (B := 0) (by omega)).setFresh (B := 0) (by omega)⟩

set_option maxHeartbeats 1000000 in
theorem spec_l10DrawForce (g : Nat) (A : Int) (w : World) (hA : A ≤ 1000) (h : SrcAt w g A) :
    Calls Try.prog 21 #[.pointer (some ⟨g, 0, none⟩)] w fun e w' => ∃ v A', e = .returned (.int .i64 v) ∧ A ≤ A' ∧ A' ≤ A + 6 ∧ SrcAt w' g A' ∧ Keep g (g + 1) w w' := by
  have hg := h.lt
  have H := Lib.hid h
  clear h
  go_enter Try.func21, Try.ntmps21
  go_wp2_with fail
  refine (spec_one g A 9 _ H.out (by omega) (by omega)).mono ?_
  rintro e w1 ⟨bb, A1, rfl, a0, a1, H1, K1⟩
  have s1 := H1.lt
  clear H
  cases bb
  · go_wp2_with fail
    refine (spec_pick g A1 400 _ H1 (by omega) (by omega)).mono ?_
    rintro e w2 ⟨x, A2, rfl, x0, x1, a2, a3, H2, K2⟩
    have x1' := x1 (by omega)
    go_wp2_with fail
    go_returns
    exact ⟨_, A2, rfl, by omega, by omega, H2, K1.trans K2⟩
  · go_wp2_with fail
    refine (spec_among g A1 w1.heap.size 0 4 4 (fun j => ([-1000001, -1000000, 1000000, 1000001] : List Int).getD j 0) _ (H1.below (Below.alloc (Below.refl _ _) (Nat.le_refl _) _)) (by omega) (fun j hj => by
      rcases (show j = 0 ∨ j = 1 ∨ j = 2 ∨ j = 3 by omega) with rfl | rfl | rfl | rfl
      all_goals go_cell) (by simp) (by omega) (by omega) (by omega)).mono ?_
    rintro e w2 ⟨j, A2, rfl, hj, a6, a7, H2, K2⟩
    have K3 := (K1.alloc (o := (Obj.cells #[.int .i64 (-1000001), .int .i64 (-1000000), .int .i64 1000000, .int .i64 1000001] 2))).trans K2
    generalize ([-1000001, -1000000, 1000000, 1000001] : List Int).getD j 0 = z at *
    go_wp2_with fail
    go_returns
    exact ⟨_, A2, rfl, by omega, by omega, H2, K3⟩

set_option maxHeartbeats 2000000 in
theorem spec_l10DrawForces (g : Nat) (A : Int) (w : World) (hA : A ≤ 1000) (h : SrcAt w g A) :
    Calls Try.prog 37 #[.pointer (some ⟨g, 0, none⟩)] w fun e w' => ∃ v A', e = .returned v ∧ NumsIn w.heap.size w' v 61 (-1000000001) 1000000001 ∧ A ≤ A' ∧ A' ≤ A + 100 ∧ SrcAt w' g A' ∧ Keep g (g + 1) w w' := by
  have hg := h.lt
  have H := Lib.hid h
  clear h
  go_enter Try.func37, Try.ntmps37
  go_wp2_with fail
  refine (spec_pick g A 8 _ (H.out.below (by go_grown)) (by omega) (by omega)).mono ?_
  rintro e w1 ⟨x, A1, rfl, x0, x1, a0, a1, H1, K1⟩
  have x1' := x1 (by omega)
  obtain ⟨N, rfl⟩ : ∃ N : Nat, x = N := ⟨x.toNat, by omega⟩
  have hU := (AppOf.made (Nat.le_refl w.heap.size)).keep K1 (by omega)
  have KK := (Keep.of_below (lo := g) (hi := g + 1) (show Below w.heap.size w (w.alloc (Obj.cells #[] 2)) from Below.alloc (Below.refl _ _) (Nat.le_refl _) _)).trans K1
  clear K1 x1 H
  go_wp2_with fail
  go_loopw [3, 4] (fun u i wr => ∃ (k : Nat) (L : List Int) (A2 : Int), L.length + k = N ∧ i = .int .i64 (k : Int) ∧ AppOf w.heap.size wr u L ∧ A ≤ A2 ∧ A2 ≤ A + 2 + 4 * L.length ∧ (∀ v, v ∈ L → -1000000001 ≤ v ∧ v ≤ 1000000001) ∧ SrcAt wr g A2 ∧ Keep g (g + 1) w wr) (fun _ i _ => (intOf i).toNat)
  case atStart => exact ⟨N, [], A1, by simp, by go_num, hU, a0, by simp; omega, by simp, H1, KK⟩
  case round =>
    clear hU H1 KK
    obtain ⟨k, L, A2, hk, rfl, hU, b0, b1, hv, H2, K2⟩ := hrel
    have HV := Lib.hid hv
    clear hv
    by_cases hlt : 0 < k
    · have hlt' : (0 : Int) < (k : Int) := by omega
      go_wp2_with fail
      refine (spec_pick g A2 200 _ H2 (by omega) (by omega)).mono ?_
      rintro e w2 ⟨y, A3, rfl, y0, y1, a2, a3, H3, K3⟩
      have y1' := y1 (by omega)
      have hU4 := hU.keep K3 (by omega)
      have K6 := K2.trans K3
      have s6 := K6.size
      clear hU H2 K2 K3 y1
      go_wp2_with (at_builtin; refine app_int _ rfl _ _ rfl w.heap.size _ _ rfl (hU4.alloc _) w2.heap.size 1 (100 * y - 8000) rfl (by go_cell) (by omega) (by simp; omega) ?_; intro v' w4 hU5 hw4)
      go_roundw
      case rel => exact ⟨k - 1, L ++ [100 * y - 8000], A3, by simp; omega, by go_num, hU5, by omega, by simp; omega, fun v hv => by
        rcases List.mem_append.1 hv with h | h
        · exact HV.out v h
        · obtain rfl := List.mem_singleton.1 h
          omega, (H3.below (Below.alloc (Below.refl _ _) (Nat.le_refl _) _)).up hw4 hg, (K6.alloc).up hw4 (Nat.le_refl _)⟩
      case measure => simp [intOf]; omega
    · have hlt' : ¬ (0 : Int) < (k : Int) := by omega
      obtain rfl : k = 0 := by omega
      go_wp2_with fail
      refine (spec_pick g A2 18 _ H2 (by omega) (by omega)).mono ?_
      rintro e w2 ⟨y, A3, rfl, y0, y1, a2, a3, H3, K3⟩
      have y1' := y1 (by omega)
      have hU3 := hU.keep K3 (by omega)
      have K4 := K2.trans K3
      have s4 := K4.size
      have g3 := H3.lt
      clear hU H2 K2 K3 y1
      by_cases e0 : y = 0
      · subst e0
        have bA : Below w2.heap.size w2 (w2.alloc (Obj.cells #[.int .i64 (-1000001), .int .i64 (-1000000), .int .i64 1000000, .int .i64 1000001] 2)) := Below.alloc (Below.refl _ _) (Nat.le_refl _) _
        go_wp2_with fail
        refine (spec_among g A3 w2.heap.size 0 4 4 (fun j => ([-1000001, -1000000, 1000000, 1000001] : List Int).getD j 0) _ (H3.below (Below.alloc (Below.refl _ _) (Nat.le_refl _) _)) (by omega) (fun j hj => by
          rcases (show j = 0 ∨ j = 1 ∨ j = 2 ∨ j = 3 by omega) with rfl | rfl | rfl | rfl
          all_goals go_cell) (by simp) (by omega) (by omega) (by omega)).mono ?_
        rintro e w3 ⟨j, A4, rfl, hj, a6, a7, H4, K5⟩
        have hz : -1000000001 ≤ ([-1000001, -1000000, 1000000, 1000001] : List Int).getD j 0 ∧ ([-1000001, -1000000, 1000000, 1000001] : List Int).getD j 0 ≤ 1000000001 := by
          rcases (show j = 0 ∨ j = 1 ∨ j = 2 ∨ j = 3 by omega) with rfl | rfl | rfl | rfl
          all_goals simp
        generalize ([-1000001, -1000000, 1000000, 1000001] : List Int).getD j 0 = z at *
        have hU4 := (hU3.below bA).keep K5 (by omega)
        have K6 : Keep g (g + 1) w w3 := (K4.alloc (o := (Obj.cells #[.int .i64 (-1000001), .int .i64 (-1000000), .int .i64 1000000, .int .i64 1000001] 2))).trans K5
        have s6 := K6.size
        clear hU3 H3 K4 K5 bA
        go_wp2_with (at_builtin; refine app_int _ rfl _ _ rfl w.heap.size _ _ rfl (hU4.alloc _) w3.heap.size 1 z rfl (by go_cell) (by omega) (by simp; omega) ?_; intro v' w4 hU5 hw4)
        go_returns
        exact ⟨_, A4, rfl, hU5.nums (by simp; omega) (fun v hv => by
          rcases List.mem_append.1 hv with h | h
          · exact HV.out v h
          · obtain rfl := List.mem_singleton.1 h
            omega), by omega, by omega, (H4.below (Below.alloc (Below.refl _ _) (Nat.le_refl _) _)).up hw4 hg, (K6.alloc).up hw4 (Nat.le_refl _)⟩
      · by_cases e1 : y = 1
        · subst e1
          go_wp2_with fail
          refine (spec_among g A3 w2.heap.size 0 2 2 (fun j => ([60, 61] : List Int).getD j 0) _ (H3.below (Below.alloc (Below.refl _ _) (Nat.le_refl _) _)) (by omega) (fun j hj => by
            rcases (show j = 0 ∨ j = 1 by omega) with rfl | rfl
            all_goals go_cell) (by simp) (by omega) (by omega) (by omega)).mono ?_
          rintro e w3 ⟨j, A4, rfl, hj, a6, a7, H4, K5⟩
          have K6 := (K4.alloc (o := (Obj.cells #[.int .i64 60, .int .i64 61] 2))).trans K5
          have s6 := K6.size
          clear hU3 K4 K5 H3
          obtain ⟨m, hm, hm2⟩ : ∃ m : Nat, ([60, 61] : List Int).getD j 0 = (m : Int) ∧ m ≤ 61 := by
            rcases (show j = 0 ∨ j = 1 by omega) with rfl | rfl
            · exact ⟨60, rfl, by omega⟩
            · exact ⟨61, rfl, by omega⟩
          rw [hm]
          clear hm hj
          have hmk := fun W => run_make_row' (P := Try.prog) 26 2 (.int .i64 0) 8 Try.underlying26 int64_parts rfl .i64 .i64 m (by omega) (by omega) W
          go_wp2_with fail
          go_returns
          exact ⟨_, A4, rfl, nums_zero _ m _ (by omega) (by omega) (by omega), by omega, by omega, H4.below (Below.alloc (Below.refl _ _) (Nat.le_refl _) _), K6.alloc⟩
        · have n1 : (y == 1) = false := by simpa using e1
          go_wp2_with fail
          go_returns
          exact ⟨_, _, rfl, hU3.nums (by omega) HV.out, by omega, by omega, H3, K4⟩

theorem spec_l10DrawWarm (g : Nat) (A : Int) (w : World) (hA : A ≤ 1000) (h : SrcAt w g A) :
    Calls Try.prog 33 #[.pointer (some ⟨g, 0, none⟩)] w fun e w' => ∃ v A', e = .returned (.int .i64 v) ∧ A ≤ A' ∧ A' ≤ A + 2 ∧ SrcAt w' g A' ∧ Keep g (g + 1) w w' := by
  have hg := h.lt
  have H := Lib.hid h
  clear h
  go_enter Try.func33, Try.ntmps33
  go_wp2_with fail
  refine (spec_among g A w.heap.size 0 7 7 (fun j => ([0, 20, 300, 5000, 100000, 100001, -1] : List Int).getD j 0) _ (H.out.below (Below.alloc (Below.refl _ _) (Nat.le_refl _) _)) (by omega) (fun j hj => by
    rcases (show j = 0 ∨ j = 1 ∨ j = 2 ∨ j = 3 ∨ j = 4 ∨ j = 5 ∨ j = 6 by omega) with rfl | rfl | rfl | rfl | rfl | rfl | rfl
    all_goals go_cell) (by simp) (by omega) (by omega) (by omega)).mono ?_
  rintro e w1 ⟨j, A1, rfl, hj, a6, a7, H1, K1⟩
  have K2 := (Keep.of_below (lo := g) (hi := g + 1) (show Below w.heap.size w (w.alloc (Obj.cells #[.int .i64 0, .int .i64 20, .int .i64 300, .int .i64 5000, .int .i64 100000, .int .i64 100001, .int .i64 (-1)] 2)) from Below.alloc (Below.refl _ _) (Nat.le_refl _) _)).trans K1
  generalize ([0, 20, 300, 5000, 100000, 100001, -1] : List Int).getD j 0 = z at *
  go_wp2
  go_returns
  exact ⟨_, A1, rfl, by omega, by omega, H1, K2⟩

theorem spec_l10DrawShare (g : Nat) (A : Int) (w : World) (hA : A ≤ 1000) (h : SrcAt w g A) :
    Calls Try.prog 34 #[.pointer (some ⟨g, 0, none⟩)] w fun e w' => ∃ v A', e = .returned (.int .i64 v) ∧ A ≤ A' ∧ A' ≤ A + 2 ∧ SrcAt w' g A' ∧ Keep g (g + 1) w w' := by
  have hg := h.lt
  have H := Lib.hid h
  clear h
  go_enter Try.func34, Try.ntmps34
  go_wp2_with fail
  refine (spec_among g A w.heap.size 0 8 8 (fun j => ([0, 1, 20, 50, 200, 1000, 1001, -1] : List Int).getD j 0) _ (H.out.below (Below.alloc (Below.refl _ _) (Nat.le_refl _) _)) (by omega) (fun j hj => by
    rcases (show j = 0 ∨ j = 1 ∨ j = 2 ∨ j = 3 ∨ j = 4 ∨ j = 5 ∨ j = 6 ∨ j = 7 by omega) with rfl | rfl | rfl | rfl | rfl | rfl | rfl | rfl
    all_goals go_cell) (by simp) (by omega) (by omega) (by omega)).mono ?_
  rintro e w1 ⟨j, A1, rfl, hj, a6, a7, H1, K1⟩
  have K2 := (Keep.of_below (lo := g) (hi := g + 1) (show Below w.heap.size w (w.alloc (Obj.cells #[.int .i64 0, .int .i64 1, .int .i64 20, .int .i64 50, .int .i64 200, .int .i64 1000, .int .i64 1001, .int .i64 (-1)] 2)) from Below.alloc (Below.refl _ _) (Nat.le_refl _) _)).trans K1
  generalize ([0, 1, 20, 50, 200, 1000, 1001, -1] : List Int).getD j 0 = z at *
  go_wp2
  go_returns
  exact ⟨_, A1, rfl, by omega, by omega, H1, K2⟩

end Go.Proofs.Ytejhngkbkcalaaa
