/-
  Contracts: doors and their events drawn from bytes.
-/
import Derived.Test.YtdhjnpjemaofoaaDoorDl
import Derived.Test.YtdhjnpjemaofoaaDoorKW
namespace Go.Proofs.YtdhjnpjemaofoaaDoor
open Go.RowKit
set_option linter.unusedVariables false
set_option linter.unusedSimpArgs false

def sliceLen : Value → Nat
  | .slice _ n _ => n
  | _ => 0
theorem Row3.keep {w w' : World} {b g : Nat} {x y z : Value} (h : Row3 w b x y z) (k : Keep g (g + 1) w w') (hb : b ≠ g) : Row3 w' b x y z :=
  ⟨(k.cellk h.lt (by omega)).trans h.c0, (k.cellk h.lt (by omega)).trans h.c1, (k.cellk h.lt (by omega)).trans h.c2, (k.frozenk h.lt (by omega)).trans h.f0, (k.frozenk h.lt (by omega)).trans h.f1, (k.frozenk h.lt (by omega)).trans h.f2, Nat.lt_of_lt_of_le h.lt k.size⟩
theorem keep_row3 (w : World) (g : Nat) (u0 u1 u2 : Value) : Keep g (g + 1) w (((w.setCell ⟨g, 0, none⟩ u0).setCell ⟨g, 1, none⟩ u1).setCell ⟨g, 2, none⟩ u2) :=
  (((Keep.refl _ _ w).set (Nat.le_refl _) (Nat.lt_succ_self _)).set (Nat.le_refl _) (Nat.lt_succ_self _)).set (Nat.le_refl _) (Nat.lt_succ_self _)
theorem Row3.made (w : World) (x y z : Value) (t : TypeId) : Row3 (w.alloc (.cells #[x, y, z] t)) w.heap.size x y z := by
  refine ⟨?_, ?_, ?_, ?_, ?_, ?_, by simp⟩
  all_goals go_simp
theorem Row3.set0 {w : World} {g : Nat} {x y z x' : Value} (h : Row3 w g x y z) : Row3 (w.setCell ⟨g, 0, none⟩ x') g x' y z :=
  ⟨cell_same h.c0, cell_off h.c1 (by decide), cell_off h.c2 (by decide), by simpa using h.f0, by simpa using h.f1, by simpa using h.f2, lt_set h.lt⟩
theorem Row3.set1 {w : World} {g : Nat} {x y z y' : Value} (h : Row3 w g x y z) : Row3 (w.setCell ⟨g, 1, none⟩ y') g x y' z :=
  ⟨cell_off h.c0 (by decide), cell_same h.c1, cell_off h.c2 (by decide), by simpa using h.f0, by simpa using h.f1, by simpa using h.f2, lt_set h.lt⟩
theorem Row3.set2 {w : World} {g : Nat} {x y z z' : Value} (h : Row3 w g x y z) : Row3 (w.setCell ⟨g, 2, none⟩ z') g x y z' :=
  ⟨cell_off h.c0 (by decide), cell_off h.c1 (by decide), cell_same h.c2, by simpa using h.f0, by simpa using h.f1, by simpa using h.f2, lt_set h.lt⟩
theorem Row3.other {w : World} {g b j : Nat} {x y z u : Value} (h : Row3 w g x y z) (hb : b ≠ g) : Row3 (w.setCell ⟨b, j, none⟩ u) g x y z :=
  ⟨cell_far h.c0 (by omega), cell_far h.c1 (by omega), cell_far h.c2 (by omega), by simpa using h.f0, by simpa using h.f1, by simpa using h.f2, lt_set h.lt⟩

set_option maxHeartbeats 1000000 in
theorem spec_l14DrawOk (g : Nat) (A : Int) (w : World) (hA : A ≤ 1000) (h : SrcAt w g A) :
    Calls Tryd.prog 62 #[.pointer (some ⟨g, 0, none⟩)] w fun e w' => ∃ p k r A', e = .returned (.agg #[.int .i64 p, .int .i64 k, .int .i64 r]) ∧ A ≤ A' ∧ A' ≤ A + 6 ∧ SrcAt w' g A' ∧ Keep g (g + 1) w w' := by
  have hg := h.lt
  have H := Lib.hid h
  clear h
  go_enter Tryd.func62, Tryd.ntmps62
  have R0 := Row3.made w (.int .i64 0) (.int .i64 0) (.int .i64 0) 25
  have H0 := H.out.below (Below.alloc (Below.refl _ _) (Nat.le_refl _) (Obj.cells #[.int .i64 0, .int .i64 0, .int .i64 0] 25))
  have K0 : Keep g (g + 1) w (w.alloc (Obj.cells #[.int .i64 0, .int .i64 0, .int .i64 0] 25)) := Keep.of_below (Below.alloc (Below.refl _ _) (Nat.le_refl _) _)
  go_wp2_with fail
  clear H
  generalize w.alloc (Obj.cells #[.int .i64 0, .int .i64 0, .int .i64 0] 25) = w0 at *
  generalize hX : w.heap.size = X at *
  have gX : g < X := by omega
  have s0 := R0.lt
  refine (spec_pick g A 4 _ H0 (by omega) (by omega)).mono ?_
  rintro e w1 ⟨p, A1, rfl, p0, p1, a0, a1, H1, K1⟩
  have R1 := R0.keep K1 (by omega)
  have K2 := K0.trans K1
  have s1 := R1.lt
  have R2 := Row3.made w1 (.int .i64 p) (.int .i64 0) (.int .i64 0) 25
  have R3 := R1.below (Below.alloc (Below.refl _ _) (Nat.le_refl _) (Obj.cells #[.int .i64 p, .int .i64 0, .int .i64 0] 25))
  have H2 := H1.below (Below.alloc (Below.refl _ _) (Nat.le_refl _) (Obj.cells #[.int .i64 p, .int .i64 0, .int .i64 0] 25))
  have K3 : Keep g (g + 1) w (w1.alloc (Obj.cells #[.int .i64 p, .int .i64 0, .int .i64 0] 25)) := K2.alloc
  clear H0 K0 R0 s0 R1 H1 K1 K2 p1
  go_upto_region 2 with fail
  generalize w1.alloc (Obj.cells #[.int .i64 p, .int .i64 0, .int .i64 0] 25) = w2 at *
  generalize hY : w1.heap.size = Y at *
  have gY : g < Y := by omega
  have XY : X < Y := by omega
  by_cases hm : p = 1 ∨ p = 3
  · have hm : p = 1 ∨ (¬ p = 1 ∧ p = 3) := by omega
    rcases hm with hm | ⟨hm1, hm⟩
    all_goals
      subst hm
      have c0 := R2.c0
      go_wp2_with fail
      clear c0
      refine (spec_pick g A1 3 _ H2 (by omega) (by omega)).mono ?_
      rintro e w3 ⟨k, A2, rfl, k0, k1, a2, a3, H3, K4⟩
      have R4 := R2.keep K4 (by omega)
      have R5 := R3.keep K4 (by omega)
      have K5 := K3.trans K4
      clear R2 R3 H2 K3 K4 k1
      have c1 := R4.c1
      have f1 := R4.f1
      have R6 := R4.set1 (y' := .int .i64 k)
      have R7 := R5.other (b := Y) (j := 1) (u := .int .i64 k) (by omega)
      have H4 := H3.setUp (b := Y) (j := 1) (u := .int .i64 k) (by omega)
      have K6 : Keep g (g + 1) w (w3.setCell ⟨Y, 1, none⟩ (.int .i64 k)) := K5.setFresh (B := 0) (by omega)
      clear R4 R5 H3 K5
      go_wp2_with fail
      clear c1 f1
      generalize w3.setCell ⟨Y, 1, none⟩ (.int .i64 k) = w4 at *
      refine (spec_pick g A2 4 _ H4 (by omega) (by omega)).mono ?_
      rintro e w5 ⟨r, A3, rfl, r0, r1, a4, a5, H5, K7⟩
      have R8 := R6.keep K7 (by omega)
      have R9 := R7.keep K7 (by omega)
      have K8 := K6.trans K7
      clear R6 R7 H4 K6 K7 r1
      have c2 := R8.c2
      have f2 := R8.f2
      have Ra := R8.set2 (z' := .int .i64 r)
      have Rb := R9.other (b := Y) (j := 2) (u := .int .i64 r) (by omega)
      have H6 := H5.setUp (b := Y) (j := 2) (u := .int .i64 r) (by omega)
      have K9 : Keep g (g + 1) w (w5.setCell ⟨Y, 2, none⟩ (.int .i64 r)) := K8.setFresh (B := 0) (by omega)
      clear R8 R9 H5 K8
      go_upto_region 5 with fail
      clear c2 f2
      generalize w5.setCell ⟨Y, 2, none⟩ (.int .i64 r) = w6 at *
      have b0 := Ra.c0
      have b1 := Ra.c1
      have b2 := Ra.c2
      have d0 := Rb.c0
      have d1 := Rb.c1
      have d2 := Rb.c2
      have f0 := Rb.f0
      have f1 := Rb.f1
      have f2 := Rb.f2
      go_wp2_with fail
      refine bodyPost_ret (by simp [results, Tryd.results62, go_sem, *]; try rfl) rfl ?_
      exact ⟨_, k, r, A3, rfl, by omega, by omega, ((H6.setUp (by omega)).setUp (by omega)).setUp (by omega), ((K9.setFresh (B := 0) (by omega)).setFresh (B := 0) (by omega)).setFresh (B := 0) (by omega)⟩
  · have h1 : ¬ p = 1 := fun h => hm (Or.inl h)
    have h3 : ¬ p = 3 := fun h => hm (Or.inr h)
    have b0 := R2.c0
    have b1 := R2.c1
    have b2 := R2.c2
    have d0 := R3.c0
    have d1 := R3.c1
    have d2 := R3.c2
    have f0 := R3.f0
    have f1 := R3.f1
    have f2 := R3.f2
    go_wp2_with fail
    refine bodyPost_ret (by simp [results, Tryd.results62, go_sem, *]; try rfl) rfl ?_
    exact ⟨p, 0, 0, A1, rfl, by omega, by omega, ((H2.setUp (by omega)).setUp (by omega)).setUp (by omega), ((K3.setFresh (B := 0) (by omega)).setFresh (B := 0) (by omega)).setFresh (B := 0) (by omega)⟩

set_option maxHeartbeats 1000000 in
theorem spec_l14Draw (g : Nat) (A : Int) (w : World) (hA : A ≤ 900) (h : SrcAt w g A) :
    Calls Tryd.prog 34 #[.pointer (some ⟨g, 0, none⟩)] w fun e w' => ∃ p k r A', e = .returned (.agg #[.int .i64 p, .int .i64 k, .int .i64 r]) ∧ A ≤ A' ∧ A' ≤ A + 12 ∧ SrcAt w' g A' ∧ Keep g (g + 1) w w' := by
  have hg := h.lt
  have H := Lib.hid h
  clear h
  go_enter Tryd.func34, Tryd.ntmps34
  have R0 := Row3.made w (.int .i64 0) (.int .i64 0) (.int .i64 0) 25
  have H0 := H.out.below (Below.alloc (Below.refl _ _) (Nat.le_refl _) (Obj.cells #[.int .i64 0, .int .i64 0, .int .i64 0] 25))
  have K0 : Keep g (g + 1) w (w.alloc (Obj.cells #[.int .i64 0, .int .i64 0, .int .i64 0] 25)) := Keep.of_below (Below.alloc (Below.refl _ _) (Nat.le_refl _) _)
  go_wp2_with fail
  clear H
  generalize w.alloc (Obj.cells #[.int .i64 0, .int .i64 0, .int .i64 0] 25) = w0 at *
  generalize hX : w.heap.size = X at *
  have gX : g < X := by omega
  have s0 := R0.lt
  refine (spec_l14DrawOk g A _ (by omega) H0).mono ?_
  rintro e w1 ⟨p, k, r, A1, rfl, a0, a1, H1, K1⟩
  have R1 := R0.keep K1 (by omega)
  have K2 := K0.trans K1
  have s1 := R1.lt
  have R2 := R1.below (Below.alloc (Below.refl _ _) (Nat.le_refl _) (Obj.cells #[.int .i64 p, .int .i64 k, .int .i64 r] 25))
  have R3 := Row3.made w1 (.int .i64 p) (.int .i64 k) (.int .i64 r) 25
  have H2 := H1.below (Below.alloc (Below.refl _ _) (Nat.le_refl _) (Obj.cells #[.int .i64 p, .int .i64 k, .int .i64 r] 25))
  have K3 : Keep g (g + 1) w (w1.alloc (Obj.cells #[.int .i64 p, .int .i64 k, .int .i64 r] 25)) := K2.alloc
  clear H0 K0 R0 s0 R1 H1 K1 K2
  go_wp2_with fail
  generalize w1.alloc (Obj.cells #[.int .i64 p, .int .i64 k, .int .i64 r] 25) = w2 at *
  generalize hY : w1.heap.size = Y at *
  have gY : g < Y := by omega
  have XY : X < Y := by omega
  refine (spec_pick g A1 20 _ H2 (by omega) (by omega)).mono ?_
  rintro e w3 ⟨x, A2, rfl, x0, x1, a2, a3, H3, K4⟩
  have R4 := R2.keep K4 (by omega)
  have R5 := R3.keep K4 (by omega)
  have K5 := K3.trans K4
  clear R2 R3 H2 K3 K4 x1
  have R2 := R4
  have l5 := R5.lt
  by_cases e0 : x = 0
  · subst e0
    clear R4
    have bA : Below w3.heap.size w3 (w3.alloc (Obj.cells #[.int .i64 (-1), .int .i64 4, .int .i64 0, .int .i64 2] 2)) := Below.alloc (Below.refl _ _) (Nat.le_refl _) _
    have R6 := R5.below bA
    have R7 := R2.below bA
    have K6 : Keep g (g + 1) w (w3.alloc (Obj.cells #[.int .i64 (-1), .int .i64 4, .int .i64 0, .int .i64 2] 2)) := K5.alloc
    go_wp2_with fail
    refine (spec_among g A2 w3.heap.size 0 4 4 (fun j => ([-1, 4, 0, 2] : List Int).getD j 0) _ (H3.below bA) (by omega) (fun j hj => by
      rcases (show j = 0 ∨ j = 1 ∨ j = 2 ∨ j = 3 by omega) with rfl | rfl | rfl | rfl
      all_goals go_cell) (by simp) (by omega) (by omega) (by omega)).mono ?_
    rintro e w4 ⟨j, A4, rfl, hj, a6, a7, H4, K7⟩
    generalize ([-1, 4, 0, 2] : List Int).getD j 0 = z at *
    have R8 := R6.keep K7 (by omega)
    have R9 := R7.keep K7 (by omega)
    have K8 := K6.trans K7
    clear R6 R7 K6 K7 bA R5 R2 K5 H3
    have c0 := R8.c0
    have f0 := R8.f0
    have Ra := R8.set0 (x' := .int .i64 z)
    have Rb := R9.other (b := Y) (j := 0) (u := .int .i64 z) (by omega)
    have H6 := H4.setUp (b := Y) (j := 0) (u := .int .i64 z) (by omega)
    have K9 : Keep g (g + 1) w (w4.setCell ⟨Y, 0, none⟩ (.int .i64 z)) := K8.setFresh (B := 0) (by omega)
    clear R8 R9 H4 K8
    go_upto_region 9 with fail
    clear c0 f0
    generalize w4.setCell ⟨Y, 0, none⟩ (.int .i64 z) = w6 at *
    have b0 := Ra.c0
    have b1 := Ra.c1
    have b2 := Ra.c2
    have d0 := Rb.c0
    have d1 := Rb.c1
    have d2 := Rb.c2
    have f0 := Rb.f0
    have f1 := Rb.f1
    have f2 := Rb.f2
    go_wp2_with fail
    refine bodyPost_ret (by simp [results, Tryd.results34, go_sem, *]; try rfl) rfl ?_
    exact ⟨_, _, _, _, rfl, by omega, by omega, ((H6.setUp (by omega)).setUp (by omega)).setUp (by omega), ((K9.setFresh (B := 0) (by omega)).setFresh (B := 0) (by omega)).setFresh (B := 0) (by omega)⟩
  · by_cases e1 : x = 1
    · subst e1
      clear R4
      have bA : Below w3.heap.size w3 (w3.alloc (Obj.cells #[.int .i64 (-1), .int .i64 1, .int .i64 2, .int .i64 3] 2)) := Below.alloc (Below.refl _ _) (Nat.le_refl _) _
      have R6 := R5.below bA
      have R7 := R2.below bA
      have K6 : Keep g (g + 1) w (w3.alloc (Obj.cells #[.int .i64 (-1), .int .i64 1, .int .i64 2, .int .i64 3] 2)) := K5.alloc
      go_wp2_with fail
      refine (spec_among g A2 w3.heap.size 0 4 4 (fun j => ([-1, 1, 2, 3] : List Int).getD j 0) _ (H3.below bA) (by omega) (fun j hj => by
        rcases (show j = 0 ∨ j = 1 ∨ j = 2 ∨ j = 3 by omega) with rfl | rfl | rfl | rfl
        all_goals go_cell) (by simp) (by omega) (by omega) (by omega)).mono ?_
      rintro e w4 ⟨j, A4, rfl, hj, a6, a7, H4, K7⟩
      generalize ([-1, 1, 2, 3] : List Int).getD j 0 = z at *
      have R8 := R6.keep K7 (by omega)
      have R9 := R7.keep K7 (by omega)
      have K8 := K6.trans K7
      clear R6 R7 K6 K7 bA R5 R2 K5 H3
      have c1 := R8.c1
      have f1 := R8.f1
      have Ra := R8.set1 (y' := .int .i64 z)
      have Rb := R9.other (b := Y) (j := 1) (u := .int .i64 z) (by omega)
      have H6 := H4.setUp (b := Y) (j := 1) (u := .int .i64 z) (by omega)
      have K9 : Keep g (g + 1) w (w4.setCell ⟨Y, 1, none⟩ (.int .i64 z)) := K8.setFresh (B := 0) (by omega)
      clear R8 R9 H4 K8
      go_upto_region 9 with fail
      clear c1 f1
      generalize w4.setCell ⟨Y, 1, none⟩ (.int .i64 z) = w6 at *
      have b0 := Ra.c0
      have b1 := Ra.c1
      have b2 := Ra.c2
      have d0 := Rb.c0
      have d1 := Rb.c1
      have d2 := Rb.c2
      have f0 := Rb.f0
      have f1 := Rb.f1
      have f2 := Rb.f2
      go_wp2_with fail
      refine bodyPost_ret (by simp [results, Tryd.results34, go_sem, *]; try rfl) rfl ?_
      exact ⟨_, _, _, _, rfl, by omega, by omega, ((H6.setUp (by omega)).setUp (by omega)).setUp (by omega), ((K9.setFresh (B := 0) (by omega)).setFresh (B := 0) (by omega)).setFresh (B := 0) (by omega)⟩
    · by_cases e2 : x = 2
      · subst e2
        clear R4
        have bA : Below w3.heap.size w3 (w3.alloc (Obj.cells #[.int .i64 (-1), .int .i64 1, .int .i64 3, .int .i64 4] 2)) := Below.alloc (Below.refl _ _) (Nat.le_refl _) _
        have R6 := R5.below bA
        have R7 := R2.below bA
        have K6 : Keep g (g + 1) w (w3.alloc (Obj.cells #[.int .i64 (-1), .int .i64 1, .int .i64 3, .int .i64 4] 2)) := K5.alloc
        go_wp2_with fail
        refine (spec_among g A2 w3.heap.size 0 4 4 (fun j => ([-1, 1, 3, 4] : List Int).getD j 0) _ (H3.below bA) (by omega) (fun j hj => by
          rcases (show j = 0 ∨ j = 1 ∨ j = 2 ∨ j = 3 by omega) with rfl | rfl | rfl | rfl
          all_goals go_cell) (by simp) (by omega) (by omega) (by omega)).mono ?_
        rintro e w4 ⟨j, A4, rfl, hj, a6, a7, H4, K7⟩
        generalize ([-1, 1, 3, 4] : List Int).getD j 0 = z at *
        have R8 := R6.keep K7 (by omega)
        have R9 := R7.keep K7 (by omega)
        have K8 := K6.trans K7
        clear R6 R7 K6 K7 bA R5 R2 K5 H3
        have c2 := R8.c2
        have f2 := R8.f2
        have Ra := R8.set2 (z' := .int .i64 z)
        have Rb := R9.other (b := Y) (j := 2) (u := .int .i64 z) (by omega)
        have H6 := H4.setUp (b := Y) (j := 2) (u := .int .i64 z) (by omega)
        have K9 : Keep g (g + 1) w (w4.setCell ⟨Y, 2, none⟩ (.int .i64 z)) := K8.setFresh (B := 0) (by omega)
        clear R8 R9 H4 K8
        go_upto_region 9 with fail
        clear c2 f2
        generalize w4.setCell ⟨Y, 2, none⟩ (.int .i64 z) = w6 at *
        have b0 := Ra.c0
        have b1 := Ra.c1
        have b2 := Ra.c2
        have d0 := Rb.c0
        have d1 := Rb.c1
        have d2 := Rb.c2
        have f0 := Rb.f0
        have f1 := Rb.f1
        have f2 := Rb.f2
        go_wp2_with fail
        refine bodyPost_ret (by simp [results, Tryd.results34, go_sem, *]; try rfl) rfl ?_
        exact ⟨_, _, _, _, rfl, by omega, by omega, ((H6.setUp (by omega)).setUp (by omega)).setUp (by omega), ((K9.setFresh (B := 0) (by omega)).setFresh (B := 0) (by omega)).setFresh (B := 0) (by omega)⟩
      · have n0 : (x == 0) = false := by simpa using e0
        have n1 : (x == 1) = false := by simpa using e1
        have n2 : (x == 2) = false := by simpa using e2
        clear R2
        have b0 := R5.c0
        have b1 := R5.c1
        have b2 := R5.c2
        have d0 := R4.c0
        have d1 := R4.c1
        have d2 := R4.c2
        have f0 := R4.f0
        have f1 := R4.f1
        have f2 := R4.f2
        go_wp2_with fail
        refine bodyPost_ret (by simp [results, Tryd.results34, go_sem, *]; try rfl) rfl ?_
        exact ⟨_, _, _, _, rfl, by omega, by omega, ((H3.setUp (by omega)).setUp (by omega)).setUp (by omega), ((K5.setFresh (B := 0) (by omega)).setFresh (B := 0) (by omega)).setFresh (B := 0) (by omega)⟩

set_option maxHeartbeats 2000000 in
theorem spec_l14DrawEvents (g : Nat) (A : Int) (w : World) (hA : A ≤ 1000) (h : SrcAt w g A) :
    Calls Tryd.prog 35 #[.pointer (some ⟨g, 0, none⟩)] w fun e w' => ∃ v A', e = .returned v ∧ NumsIn w.heap.size w' v 61 (-1) 5 ∧ A ≤ A' ∧ A' ≤ A + 100 ∧ SrcAt w' g A' ∧ Keep g (g + 1) w w' := by
  have hg := h.lt
  have H := Lib.hid h
  clear h
  go_enter Tryd.func35, Tryd.ntmps35
  go_wp2_with fail
  refine (spec_pick g A 20 _ (H.out.below (by go_grown)) (by omega) (by omega)).mono ?_
  rintro e w1 ⟨x, A1, rfl, x0, x1, a0, a1, H1, K1⟩
  have x1' := x1 (by omega)
  obtain ⟨N, rfl⟩ : ∃ N : Nat, x = N := ⟨x.toNat, by omega⟩
  have hU := (AppOf.made (Nat.le_refl w.heap.size)).keep K1 (by omega)
  have KK := (Keep.of_below (lo := g) (hi := g + 1) (show Below w.heap.size w (w.alloc (Obj.cells #[] 2)) from Below.alloc (Below.refl _ _) (Nat.le_refl _) _)).trans K1
  clear K1 x1 H
  go_wp2_with fail
  go_loopw [3, 4] (fun u i wr => ∃ (k : Nat) (L : List Int) (A2 : Int), L.length + k = N ∧ i = .int .i64 (k : Int) ∧ AppOf w.heap.size wr u L ∧ A ≤ A2 ∧ A2 ≤ A + 2 + 4 * L.length ∧ (∀ v, v ∈ L → -1 ≤ v ∧ v ≤ 5) ∧ SrcAt wr g A2 ∧ Keep g (g + 1) w wr) (fun _ i _ => (intOf i).toNat)
  case atStart => exact ⟨N, [], A1, by simp, by go_num, hU, a0, by simp; omega, by simp, H1, KK⟩
  case round =>
    clear hU H1 KK
    obtain ⟨k, L, A2, hk, rfl, hU, b0, b1, hv, H2, K2⟩ := hrel
    have HV := Lib.hid hv
    clear hv
    by_cases hlt : 0 < k
    · have hlt' : (0 : Int) < (k : Int) := by omega
      have g2 := H2.lt
      have bA : Below wr.heap.size wr (wr.alloc (Obj.cells #[.int .i64 1, .int .i64 2, .int .i64 3, .int .i64 4, .int .i64 4, .int .i64 4, .int .i64 4] 2)) := Below.alloc (Below.refl _ _) (Nat.le_refl _) _
      go_wp2_with fail
      refine (spec_among g A2 wr.heap.size 0 7 7 (fun j => ([1, 2, 3, 4, 4, 4, 4] : List Int).getD j 0) _ (H2.below bA) (by omega) (fun j hj => by
        rcases (show j = 0 ∨ j = 1 ∨ j = 2 ∨ j = 3 ∨ j = 4 ∨ j = 5 ∨ j = 6 by omega) with rfl | rfl | rfl | rfl | rfl | rfl | rfl
        all_goals go_cell) (by simp) (by omega) (by omega) (by omega)).mono ?_
      rintro e w2 ⟨j, A4, rfl, hj, a4, a5, H4, K5⟩
      have hz : -1 ≤ ([1, 2, 3, 4, 4, 4, 4] : List Int).getD j 0 ∧ ([1, 2, 3, 4, 4, 4, 4] : List Int).getD j 0 ≤ 5 := by
        rcases (show j = 0 ∨ j = 1 ∨ j = 2 ∨ j = 3 ∨ j = 4 ∨ j = 5 ∨ j = 6 by omega) with rfl | rfl | rfl | rfl | rfl | rfl | rfl
        all_goals simp
      generalize ([1, 2, 3, 4, 4, 4, 4] : List Int).getD j 0 = z at *
      have hU4 := (hU.below bA).keep K5 (by omega)
      have K6 : Keep g (g + 1) w w2 := (K2.alloc (o := Obj.cells #[.int .i64 1, .int .i64 2, .int .i64 3, .int .i64 4, .int .i64 4, .int .i64 4, .int .i64 4] 2)).trans K5
      have s6 := K6.size
      clear hU H2 K2 K5 bA
      go_wp2_with (at_builtin; refine app_int _ rfl _ _ rfl w.heap.size _ _ rfl (hU4.alloc _) w2.heap.size 1 z rfl (by go_cell) (by omega) (by simp; omega) ?_; intro v' w4 hU5 hw4)
      go_roundw
      case rel => exact ⟨k - 1, L ++ [z], A4, by simp; omega, by go_num, hU5, by omega, by simp; omega, fun v hv => by
        rcases List.mem_append.1 hv with h | h
        · exact HV.out v h
        · obtain rfl := List.mem_singleton.1 h
          omega, (H4.below (Below.alloc (Below.refl _ _) (Nat.le_refl _) _)).up hw4 hg, (K6.alloc).up hw4 (Nat.le_refl _)⟩
      case measure => simp [intOf]; omega
    · have hlt' : ¬ (0 : Int) < (k : Int) := by omega
      obtain rfl : k = 0 := by omega
      go_wp2_with fail
      refine (spec_pick g A2 18 _ H2 (by omega) (by omega)).mono ?_
      rintro e w2 ⟨y, A3, rfl, y0, y1, a2, a3, H3, K3⟩
      have y1' := y1 (by omega)
      have hU3 := hU.keep K3 (by omega)
      have K4 := K2.trans K3
      have s4 := K4.size
      have g3 := H3.lt
      clear hU H2 K2 K3 y1
      by_cases e0 : y = 0
      · subst e0
        have bA : Below w2.heap.size w2 (w2.alloc (Obj.cells #[.int .i64 0, .int .i64 5] 2)) := Below.alloc (Below.refl _ _) (Nat.le_refl _) _
        go_wp2_with fail
        refine (spec_among g A3 w2.heap.size 0 2 2 (fun j => ([0, 5] : List Int).getD j 0) _ (H3.below bA) (by omega) (fun j hj => by
          rcases (show j = 0 ∨ j = 1 by omega) with rfl | rfl
          all_goals go_cell) (by simp) (by omega) (by omega) (by omega)).mono ?_
        rintro e w3 ⟨j, A4, rfl, hj, a4, a5, H4, K5⟩
        have hz : -1 ≤ ([0, 5] : List Int).getD j 0 ∧ ([0, 5] : List Int).getD j 0 ≤ 5 := by
          rcases (show j = 0 ∨ j = 1 by omega) with rfl | rfl
          all_goals simp
        generalize ([0, 5] : List Int).getD j 0 = z at *
        have hU4 := (hU3.below bA).keep K5 (by omega)
        have K6 : Keep g (g + 1) w w3 := (K4.alloc (o := Obj.cells #[.int .i64 0, .int .i64 5] 2)).trans K5
        have s6 := K6.size
        clear hU3 H3 K4 K5 bA
        go_wp2_with (at_builtin; refine app_int _ rfl _ _ rfl w.heap.size _ _ rfl (hU4.alloc _) w3.heap.size 1 z rfl (by go_cell) (by omega) (by simp; omega) ?_; intro v' w4 hU5 hw4)
        go_returns
        exact ⟨_, A4, rfl, hU5.nums (by simp; omega) (fun v hv => by
          rcases List.mem_append.1 hv with h | h
          · exact HV.out v h
          · obtain rfl := List.mem_singleton.1 h
            omega), by omega, by omega, (H4.below (Below.alloc (Below.refl _ _) (Nat.le_refl _) _)).up hw4 hg, (K6.alloc).up hw4 (Nat.le_refl _)⟩
      · have n0 : (y == 0) = false := by simpa using e0
        by_cases e1 : y = 1
        · subst e1
          have bA : Below w2.heap.size w2 (w2.alloc (Obj.cells #[.int .i64 60, .int .i64 61] 2)) := Below.alloc (Below.refl _ _) (Nat.le_refl _) _
          go_wp2_with fail
          refine (spec_among g A3 w2.heap.size 0 2 2 (fun j => ([60, 61] : List Int).getD j 0) _ (H3.below bA) (by omega) (fun j hj => by
            rcases (show j = 0 ∨ j = 1 by omega) with rfl | rfl
            all_goals go_cell) (by simp) (by omega) (by omega) (by omega)).mono ?_
          rintro e w3 ⟨j, A4, rfl, hj, a4, a5, H4, K5⟩
          obtain ⟨M, hM, hM2⟩ : ∃ M : Nat, ([60, 61] : List Int).getD j 0 = (M : Int) ∧ M ≤ 61 := by
            rcases (show j = 0 ∨ j = 1 by omega) with rfl | rfl
            · exact ⟨60, rfl, by omega⟩
            · exact ⟨61, rfl, by omega⟩
          rw [hM]
          clear hM hj
          have K6 : Keep g (g + 1) w w3 := (K4.alloc (o := Obj.cells #[.int .i64 60, .int .i64 61] 2)).trans K5
          have s6 := K6.size
          clear hU3 H3 K4 K5 bA HV
          have hU6 := AppOf.made s6
          have H6 := H4.below (Below.alloc (Below.refl _ _) (Nat.le_refl _) (Obj.cells #[] 2))
          have K7 : Keep g (g + 1) w (w3.alloc (Obj.cells #[] 2)) := K6.alloc
          go_wp2_with fail
          generalize w3.alloc (Obj.cells #[] 2) = w5 at *
          go_loopw [3] (fun u wr => ∃ (q : Nat) (L : List Int), q ≤ M ∧ L.length = q ∧ AppOf w.heap.size wr u L ∧ (∀ v, v ∈ L → -1 ≤ v ∧ v ≤ 5) ∧ SrcAt wr g A4 ∧ Keep g (g + 1) w wr) (fun u _ => M - sliceLen u)
          case atStart => exact ⟨0, [], by omega, rfl, hU6, by simp, H6, K7⟩
          case round =>
            clear hU6 H6 K7
            obtain ⟨q, L4, hq, hL, hU7, hv, H7, K8⟩ := hrel
            have HV := Lib.hid hv
            clear hv
            have s8 := K8.size
            obtain ⟨aU, cU, rfl, hnc, hcc, _⟩ := hU7.outc
            by_cases hlt2 : (L4.length : Int) < (M : Int)
            · go_wp2_with (at_builtin; refine app_int _ rfl _ _ rfl w.heap.size _ _ rfl (hU7.alloc _) wr.heap.size 1 4 rfl (by go_cell) (by omega) (by simp; omega) ?_; intro v' w6 hU8 hw6)
              have hv6 : ∀ v, v ∈ L4 ++ [4] → -1 ≤ v ∧ v ≤ 5 := fun v hv => by
                rcases List.mem_append.1 hv with h | h
                · exact HV.out v h
                · obtain rfl := List.mem_singleton.1 h
                  omega
              have H9 := (H7.below (Below.alloc (Below.refl _ _) (Nat.le_refl _) (Obj.cells #[.int .i64 4] 2))).up hw6 hg
              have K9 := (K8.alloc (o := Obj.cells #[.int .i64 4] 2)).up hw6 (Nat.le_refl _)
              obtain ⟨aV, cV, rfl, _, _, _⟩ := hU8.outc
              go_roundw
              case rel => first | exact ⟨q + 1, L4 ++ [4], by omega, by simp; omega, hU8, hv6, H9, K9⟩ | ((repeat apply Exists.intro); exact ⟨⟨q + 1, L4 ++ [4], by omega, by simp; omega, hU8, hv6, H9, K9⟩, rfl⟩)
              case measure => simp [sliceLen]; omega
            · go_wp2_with fail
              refine bodyPost_ret (by simp [results, Tryd.results35, go_sem, *]; try rfl) rfl ?_
              first | exact ⟨_, A4, rfl, hU7.nums (by omega) HV.out, by omega, by omega, H7, K8⟩ | exact ⟨_, by rw [← hL], hU7.nums (by omega) HV.out, A4, by omega, by omega, H7, K8⟩
        · have n1 : (y == 1) = false := by simpa using e1
          go_wp2_with fail
          go_returns
          exact ⟨_, _, rfl, hU3.nums (by omega) HV.out, by omega, by omega, H3, K4⟩

theorem spec_DrawDoorRun (a : Option Addr) (n c : Nat) (w : World) (h : BytesAt w a n) (hn : n ≤ 1048576) :
    Calls Tryd.prog 6 #[.slice a n c] w fun e w' => ∃ p k r v, e = .returned (.tuple #[.agg #[.int .i64 p, .int .i64 k, .int .i64 r], v]) ∧ NumsIn w.heap.size w' v 61 (-1) 5 ∧ Below w.heap.size w w' := by
  have H := Lib.hid h
  clear h
  go_enter Tryd.func6, Tryd.ntmps6
  have R0 := Row3.made w (.int .i64 0) (.int .i64 0) (.int .i64 0) 25
  have H0 := H.out.below (Below.alloc (Below.refl _ _) (Nat.le_refl _) (Obj.cells #[.int .i64 0, .int .i64 0, .int .i64 0] 25))
  have b0 : Below w.heap.size w (w.alloc (Obj.cells #[.int .i64 0, .int .i64 0, .int .i64 0] 25)) := Below.alloc (Below.refl _ _) (Nat.le_refl _) _
  go_wp2_with fail
  clear H
  generalize w.alloc (Obj.cells #[.int .i64 0, .int .i64 0, .int .i64 0] 25) = w0 at *
  generalize hX : w.heap.size = X at *
  have s0 := R0.lt
  refine (spec_l00From a n c _ H0 hn).mono ?_
  rintro e w1 ⟨g, rfl, hg, HS, hb⟩
  have R1 := R0.below hb
  have b1 := b0.trans (hb.mono (by omega))
  have s1 := R1.lt
  have lg := HS.lt
  have gX : X < g := by omega
  clear R0 b0 hb H0
  go_wp2_with fail
  refine (spec_l14Draw g 0 _ (by omega) HS).mono ?_
  rintro e w2 ⟨p, k, r, A2, rfl, a0, a1, H2, K2⟩
  have R2 := R1.keep K2 (by omega)
  have b2 := b1.trans (K2.below (by omega) (by omega))
  have t2 := K2.size
  have bA : Below w2.heap.size w2 (w2.alloc (Obj.cells #[.int .i64 p, .int .i64 k, .int .i64 r] 25)) := Below.alloc (Below.refl _ _) (Nat.le_refl _) _
  have R3 := R2.below bA
  have R4 := Row3.made w2 (.int .i64 p) (.int .i64 k) (.int .i64 r) 25
  have H3 := H2.below bA
  have b3 := b2.trans (bA.mono (by omega))
  clear HS K2 R1 b1 R2 b2 H2 bA
  go_wp2_with fail
  generalize w2.alloc (Obj.cells #[.int .i64 p, .int .i64 k, .int .i64 r] 25) = w3 at *
  generalize hD : w2.heap.size = D at *
  have l3 := R4.lt
  have c0 := R4.c0
  have c1 := R4.c1
  have c2 := R4.c2
  have gD : g < D := by omega
  have XD : X < D := by omega
  refine wp_region_any (by kernel_rfl) ?_
  change wpAny _ _ _ _ _ _ _ (World.drew _)
  (refine wpAny_take (i := 1) (v := ?_) rfl (by kernel_rfl) (by kernel_rfl) (by kernel_rfl) (fun _ _ _ h => h) (Or.inl ⟨by rfl, ?_⟩) ?_; rotate_left; (intro w; go_simp; try (with_reducible rfl)))
  refine wpAny_ready (rs := [0, 2]) (by kernel_rfl) (by simp) ?_
  refine AllReady.cons rfl (fun K hK => ?_) (AllReady.cons rfl (fun K hK => ?_) AllReady.nil)
  · go_simp
    (refine hK _ _ ?_; clear hK K)
    refine wpAny_ready (rs := [2]) (by kernel_rfl) (by simp) ?_
    refine AllReady.cons rfl (fun K hK => ?_) AllReady.nil
    go_simp
    refine (spec_l14DrawEvents g A2 _ (by omega) H3.drew).mono ?_
    rintro e w4 ⟨v, A5, rfl, hV, a6, a7, H5, K5⟩
    have K6 : Keep g (g + 1) w3 w4 := (Keep.of_below (Below.drew (Below.refl _ _))).trans K5
    have R5 := R3.keep K6 (by omega)
    have R6 := R4.keep K6 (by omega)
    have b5 := b3.trans (K6.below (by omega) (by omega))
    clear R3 R4 b3 K5 K6 H3 c0 c1 c2
    refine hK _ _ ?_
    clear hK K
    have f0 := R5.f0
    have f1 := R5.f1
    have f2 := R5.f2
    have e0 := R5.c0
    have e1 := R5.c1
    have e2 := R5.c2
    have hV2 : NumsIn w.heap.size (((w4.setCell ⟨X, 0, none⟩ (.int .i64 p)).setCell ⟨X, 1, none⟩ (.int .i64 k)).setCell ⟨X, 2, none⟩ (.int .i64 r)) v 61 (-1) 5 := (hV.keep (keep_row3 w4 X _ _ _) (by simp; omega)).mono (by simp; omega)
    have b6 := below_set3 (x' := .int .i64 p) (y' := .int .i64 k) (z' := .int .i64 r) b5 (Nat.le_refl X)
    refine wpAny_tail 3 (by kernel_rfl) (by kernel_rfl) ?_
    simp only [List.drop_succ_cons, List.drop_zero]
    go_wp2_with fail
    refine bodyPost_ret (by simp [results, Tryd.results6, go_sem, *]; try rfl) rfl ?_
    exact ⟨p, k, r, v, rfl, hV2, by rw [hX]; exact b6⟩
  · go_simp
    refine (spec_l14DrawEvents g A2 _ (by omega) H3.drew).mono ?_
    rintro e w4 ⟨v, A5, rfl, hV, a6, a7, H5, K5⟩
    have K6 : Keep g (g + 1) w3 w4 := (Keep.of_below (Below.drew (Below.refl _ _))).trans K5
    have R5 := R3.keep K6 (by omega)
    have R6 := R4.keep K6 (by omega)
    have b5 := b3.trans (K6.below (by omega) (by omega))
    clear R3 R4 b3 K5 K6 H3 c0 c1 c2
    refine hK _ _ ?_
    clear hK K
    refine wpAny_ready (rs := [0]) (by kernel_rfl) (by simp) ?_
    refine AllReady.cons rfl (fun K hK => ?_) AllReady.nil
    have c0 := R6.c0
    have c1 := R6.c1
    have c2 := R6.c2
    go_simp
    (refine hK _ _ ?_; clear hK K)
    clear c0 c1 c2
    have f0 := R5.f0
    have f1 := R5.f1
    have f2 := R5.f2
    have e0 := R5.c0
    have e1 := R5.c1
    have e2 := R5.c2
    have hV2 : NumsIn w.heap.size (((w4.setCell ⟨X, 0, none⟩ (.int .i64 p)).setCell ⟨X, 1, none⟩ (.int .i64 k)).setCell ⟨X, 2, none⟩ (.int .i64 r)) v 61 (-1) 5 := (hV.keep (keep_row3 w4 X _ _ _) (by simp; omega)).mono (by simp; omega)
    have b6 := below_set3 (x' := .int .i64 p) (y' := .int .i64 k) (z' := .int .i64 r) b5 (Nat.le_refl X)
    refine wpAny_tail 3 (by kernel_rfl) (by kernel_rfl) ?_
    simp only [List.drop_succ_cons, List.drop_zero]
    go_wp2_with fail
    refine bodyPost_ret (by simp [results, Tryd.results6, go_sem, *]; try rfl) rfl ?_
    exact ⟨p, k, r, v, rfl, hV2, by rw [hX]; exact b6⟩

theorem spec_DrawTicksToShut (a : Option Addr) (n c : Nat) (w : World) (h : BytesAt w a n) (hn : n ≤ 1048576) :
    Calls Tryd.prog 14 #[.slice a n c] w fun e w' => ∃ p k r, e = .returned (.agg #[.int .i64 p, .int .i64 k, .int .i64 r]) ∧ Below w.heap.size w w' := by
  have H := Lib.hid h
  clear h
  go_enter Tryd.func14, Tryd.ntmps14
  have R0 := Row3.made w (.int .i64 0) (.int .i64 0) (.int .i64 0) 25
  have H0 := H.out.below (Below.alloc (Below.refl _ _) (Nat.le_refl _) (Obj.cells #[.int .i64 0, .int .i64 0, .int .i64 0] 25))
  have b0 : Below w.heap.size w (w.alloc (Obj.cells #[.int .i64 0, .int .i64 0, .int .i64 0] 25)) := Below.alloc (Below.refl _ _) (Nat.le_refl _) _
  go_wp2_with fail
  clear H
  generalize w.alloc (Obj.cells #[.int .i64 0, .int .i64 0, .int .i64 0] 25) = w0 at *
  generalize hX : w.heap.size = X at *
  have s0 := R0.lt
  refine (spec_l00From a n c _ H0 hn).mono ?_
  rintro e w1 ⟨g, rfl, hg, HS, hb⟩
  have R1 := R0.below hb
  have b1 := b0.trans (hb.mono (by omega))
  have s1 := R1.lt
  have lg := HS.lt
  have gX : X < g := by omega
  clear R0 b0 hb H0
  go_wp2_with fail
  refine (spec_l14Draw g 0 _ (by omega) HS).mono ?_
  rintro e w2 ⟨p, k, r, A2, rfl, a0, a1, H2, K2⟩
  have R2 := R1.keep K2 (by omega)
  have b2 := b1.trans (K2.below (by omega) (by omega))
  clear HS K2 R1 b1 H2
  have f0 := R2.f0
  have f1 := R2.f1
  have f2 := R2.f2
  have e0 := R2.c0
  have e1 := R2.c1
  have e2 := R2.c2
  have b6 := below_set3 (x' := .int .i64 p) (y' := .int .i64 k) (z' := .int .i64 r) b2 (Nat.le_refl X)
  go_wp2_with fail
  refine bodyPost_ret (by simp [results, Tryd.results14, go_sem, *]; try rfl) rfl ?_
  exact ⟨p, k, r, rfl, by rw [hX]; exact b6⟩

end Go.Proofs.YtdhjnpjemaofoaaDoor
