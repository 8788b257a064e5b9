/-
  Contracts: places and passings drawn from bytes.
-/
import Derived.Test.YtdhjnpjemaofoaaDoorDl
import Derived.Test.YtdhjnpjemaofoaaDoorM1
import Derived.Test.YtdhjnpjemaofoaaDoorAn
import Derived.Test.YtdhjnpjemaofoaaDoorKW
namespace Go.Proofs.YtdhjnpjemaofoaaDoor
open Go.RowKit
set_option linter.unusedVariables false
set_option linter.unusedSimpArgs false

/-- The slice value holds the passings L in a row of the call's own, from block B on. -/
def pairL (x : Int × Int) : List Value := [.int .i64 x.1, .int .i64 x.2]
def PsOf (B : Nat) (w : World) (v : Value) (L : List (Int × Int)) : Prop := w.ownsRow B 53 2 v L.length (L.flatMap pairL)
theorem pass_info : (Tryd.prog.info? 53).map (fun i => (i.zero, i.size, i.bytes)) = some (some (.agg #[.int .i64 0, .int .i64 0]), 2, 16) := by kernel_rfl
theorem PsOf.snoc {B : Nat} {w : World} {v : Value} {L : List (Int × Int)} {y : Int × Int} (h : w.ownsRow B 53 2 v (L.length + 1) (L.flatMap pairL ++ pairL y)) : PsOf B w v (L ++ [y]) := by
  unfold PsOf
  rw [List.length_append, List.flatMap_append]
  simpa using h
theorem PsOf.alloc {B : Nat} {w : World} {v : Value} {L : List (Int × Int)} (h : PsOf B w v L) (o : Obj) : PsOf B (w.alloc o) v L := World.ownsRow.alloc h o
theorem PsOf.below {B : Nat} {w w' : World} {v : Value} {L : List (Int × Int)} (h : PsOf B w v L) (hb : Below w.heap.size w w') : PsOf B w' v L :=
  World.ownsRow.kept (row := none) h ⟨hb.os, hb.tape, hb.output, hb.size, fun k hk _ => hb.block k hk⟩ (by cases hv : v.ownBlock <;> simp)
theorem PsOf.keep {B g : Nat} {w w' : World} {v : Value} {L : List (Int × Int)} (h : PsOf B w v L) (k : Keep g (g + 1) w w') (hg : g < B) : PsOf B w' v L :=
  World.ownsRow.kept (row := some g) h ⟨k.os, k.tape, k.output, k.size, fun i hi hne => k.block i hi (fun hh => hne (by obtain ⟨h1, h2⟩ := hh; congr 1; omega))⟩ (by
    cases hv : v.ownBlock
    · exact Or.inl rfl
    · rename_i x
      have := (World.ownsRow.lt h x hv).1
      exact Or.inr (fun e => by injection e with e; omega))
theorem PsOf.made {B : Nat} {w : World} (h : B ≤ w.heap.size) : PsOf B (w.alloc (.cells #[] 53)) (.slice (some ⟨w.heap.size, 0, none⟩) 0 0) [] := World.ownsRow_made w #[] 0 h (by decide) rfl
theorem PsOf.pass {B : Nat} {w : World} {v : Value} {L : List (Int × Int)} (h : PsOf B w v L) : ∃ a c, v = .slice a L.length c ∧ PassAt w a L.length (fun k => (L.getD k (0, 0)).1) (fun k => (L.getD k (0, 0)).2) := by
  obtain ⟨a, c, rfl, ho⟩ := own_outN h
  refine ⟨a, c, rfl, fun hn => ?_⟩
  obtain ⟨g, rfl, _, _, hb, hc⟩ := ho (by omega)
  refine ⟨g, 0, rfl, hb, fun k hk => ?_⟩
  have hy : L[k]? = some L[k] := List.getElem?_eq_getElem hk
  have H : ∀ i, i < 2 → w.cell? ⟨g, k * 2 + i, none⟩ = some ((pairL L[k])[i]?.getD (.int .i64 0)) := fun i hi => by
    rw [(hc (k * 2 + i) (by omega)).1]
    show some ((L.flatMap pairL).getD (k * 2 + i) (.int .i64 0)) = _
    rw [List.getD_eq_getElem?_getD, flat_get pairL 2 (fun _ => rfl) L k i _ hy hi]
  have e : L.getD k (0, 0) = L[k] := by simp [List.getD_eq_getElem?_getD, hk]
  dsimp only
  rw [e]
  simp only [Nat.zero_add]
  exact ⟨H 0 (by omega), H 1 (by omega)⟩
theorem cells_two {w : World} {g : Nat} {x y : Int} (c0 : w.cell? ⟨g, 0, none⟩ = some (.int .i64 x)) (c1 : w.cell? ⟨g, 1, none⟩ = some (.int .i64 y)) : ∀ j u, (pairL (x, y))[j]? = some u → w.cell? ⟨g, j, none⟩ = some u := by
  intro j u hu
  cases j with
  | zero => simp [pairL] at hu; subst hu; exact c0
  | succ j =>
    cases j with
    | zero => simp [pairL] at hu; subst hu; exact c1
    | succ j => simp [pairL] at hu
theorem pair_one (y : Int × Int) : ∀ u ∈ pairL y, u.oneCell' = true := by
  intro u hu
  simp only [pairL, List.mem_cons, List.not_mem_nil, or_false] at hu
  rcases hu with rfl | rfl <;> rfl
theorem ownsRow_set {w : World} {B X j : Nat} {e : TypeId} {sz n : Nat} {v u : Value} {xs : List Value} (h : w.ownsRow B e sz v n xs) (hX : ∀ b, v.ownBlock = some b → b < X) : (w.setCell ⟨X, j, none⟩ u).ownsRow B e sz v n xs :=
  ownsRow_blk h (fun b hb => Below.heap_setCell w ⟨X, j, none⟩ u b (fun e => by have := hX b hb; simp at e; omega))
/-- append of one passing. -/
theorem app_pass {ops : Array Oper} {rest : List Oper} {o : Oper} {a : Act} {Q : Exit → Act → World → Prop} (w : World) (hgd : o.guard = none) (s x : Operand)
    (ho : o.op = .call { callee := .builtin .append, args := #[s, x], argTypes := #[46, 46] }) (B : Nat) (v : Value) (L : List (Int × Int)) (hs : a.eval s = v) (hown : PsOf B w v L)
    (g c : Nat) (i j : Int) (hx : a.eval x = .slice (some ⟨g, 0, none⟩) 1 c) (c0 : w.cell? ⟨g, 0, none⟩ = some (.int .i64 i)) (c1 : w.cell? ⟨g, 1, none⟩ = some (.int .i64 j)) (hlen : L.length ≤ 16777216) (hbase : B ≤ w.heap.size)
    (h : ∀ v' w', PsOf B w' v' (L ++ [(i, j)]) → Below B w w' → (∀ b, b < w.heap.size → v.ownBlock ≠ some b → w'.heap[b]? = w.heap[b]?) → wpList Tryd.prog ops Q rest (a.put o.dst v') w') : wpList Tryd.prog ops Q (o :: rest) a w :=
  app_cells 46 53 _ 2 16 pass_info Tryd.underlying46 rfl (by decide) (by decide) w hgd s x ho B v L.length _ hs hown g c (pairL (i, j)) hx rfl (cells_two c0 c1) (pair_one _) hlen hbase (fun v' w' h1 h2 h3 => h v' w' (PsOf.snoc h1) h2 h3)

set_option maxHeartbeats 2000000 in
theorem spec_l12DrawPlaces (g : Nat) (A : Int) (w : World) (hA : A ≤ 1000) (h : SrcAt w g A) :
    Calls Tryd.prog 70 #[.pointer (some ⟨g, 0, none⟩)] w fun e w' => ∃ v L A', e = .returned v ∧ AppOf w.heap.size w' v L ∧ L.length ≤ 17 ∧ A ≤ A' ∧ A' ≤ A + 100 ∧ SrcAt w' g A' ∧ Keep g (g + 1) w w' := by
  have hg := h.lt
  have H := Lib.hid h
  clear h
  go_enter Tryd.func70, Tryd.ntmps70
  go_wp2_with fail
  have hU := AppOf.made (Nat.le_refl w.heap.size)
  have H0 := H.out.below (Below.alloc (Below.refl _ _) (Nat.le_refl _) (Obj.cells #[] 2))
  have K0 : Keep g (g + 1) w (w.alloc (Obj.cells #[] 2)) := Keep.of_below (Below.alloc (Below.refl _ _) (Nat.le_refl _) _)
  generalize w.alloc (Obj.cells #[] 2) = w0 at *
  refine (spec_pick g A 20 _ H0 (by omega) (by omega)).mono ?_
  rintro e w1 ⟨x, A1, rfl, x0, x1, a0, a1, H1, K1⟩
  have hU1 := hU.keep K1 (by omega)
  have K2 := K0.trans K1
  clear K0 K1 hU H0 H x1
  go_wp2_with fail
  refine (spec_pick g A1 8 _ H1 (by omega) (by omega)).mono ?_
  rintro e w2 ⟨y, A2, rfl, y0, y1, a2, a3, H2, K3⟩
  have y1' := y1 (by omega)
  obtain ⟨N, rfl⟩ : ∃ N : Nat, y = N := ⟨y.toNat, by omega⟩
  have hU2 := hU1.keep K3 (by omega)
  have K4 := K2.trans K3
  clear hU1 H1 K2 K3 y1
  go_wp2_with fail
  go_loopw [3, 4, 5] (fun u p i wr => ∃ (k : Nat) (L : List Int) (z A3 : Int), L.length + k = N ∧ i = .int .i64 (k : Int) ∧ p = .int .i64 z ∧ AppOf w.heap.size wr u L ∧ A ≤ A3 ∧ A3 ≤ A + 4 + 4 * L.length ∧ SrcAt wr g A3 ∧ Keep g (g + 1) w wr) (fun _ _ i _ => (intOf i).toNat)
  case atStart => exact ⟨N, [], _, A2, by simp, by go_num, rfl, hU2, by omega, by simp; omega, H2, K4⟩
  case round =>
    clear hU2 H2 K4
    obtain ⟨k, L, z, A3, hk, rfl, rfl, hU, b0, b1, H2, K2⟩ := hrel
    have s2 := K2.size
    by_cases hlt : 0 < k
    · have hlt' : (0 : Int) < (k : Int) := by omega
      go_wp2_with (at_builtin; refine app_int _ rfl _ _ rfl w.heap.size _ _ rfl (hU.alloc _) wr.heap.size 1 z rfl (by go_cell) (by omega) (by simp; omega) ?_; intro v' w4 hU5 hw4)
      have H4 := (H2.below (Below.alloc (Below.refl _ _) (Nat.le_refl _) (Obj.cells #[.int .i64 z] 2))).up hw4 hg
      have K5 := (K2.alloc (o := Obj.cells #[.int .i64 z] 2)).up hw4 (Nat.le_refl _)
      clear hU H2 K2 hw4
      refine (spec_pick g A3 90 _ H4 (by omega) (by omega)).mono ?_
      rintro e w5 ⟨q, A4, rfl, q0, q1, a4, a5, H5, K6⟩
      have hU6 := hU5.keep K6 (by omega)
      have K7 := K5.trans K6
      clear q1 hU5 H4 K5 K6
      go_wp2_with fail
      go_roundw
      case rel => exact ⟨k - 1, L ++ [z], _, A4, by simp; omega, by go_num, rfl, hU6, by omega, by simp; omega, H5, K7⟩
      case measure => simp [intOf]; omega
    · have hlt' : ¬ (0 : Int) < (k : Int) := by omega
      obtain rfl : k = 0 := by omega
      go_wp2_with fail
      refine (spec_pick g A3 24 _ H2 (by omega) (by omega)).mono ?_
      rintro e w3 ⟨c, A4, rfl, c0, c1, a4, a5, H4, K3⟩
      have hU3 := hU.keep K3 (by omega)
      have K5 := K2.trans K3
      have s4 := K5.size
      have g4 := H4.lt
      clear hU H2 K2 K3 c1
      by_cases e0 : c = 0
      · subst e0
        have bA : Below w3.heap.size w3 (w3.alloc (Obj.cells #[.int .i64 (-1), .int .i64 0, .int .i64 4000000, .int .i64 4000001] 2)) := Below.alloc (Below.refl _ _) (Nat.le_refl _) _
        go_wp2_with fail
        refine (spec_among g A4 w3.heap.size 0 4 4 (fun j => ([-1, 0, 4000000, 4000001] : List Int).getD j 0) _ (H4.below bA) (by omega) (fun j hj => by
          rcases (show j = 0 ∨ j = 1 ∨ j = 2 ∨ j = 3 by omega) with rfl | rfl | rfl | rfl
          all_goals go_cell) (by simp) (by omega) (by omega) (by omega)).mono ?_
        rintro e w4 ⟨j, A5, rfl, hj, a6, a7, H5, K6⟩
        generalize ([-1, 0, 4000000, 4000001] : List Int).getD j 0 = t at *
        have hU4 := (hU3.below bA).keep K6 (by omega)
        have K7 : Keep g (g + 1) w w4 := (K5.alloc (o := Obj.cells #[.int .i64 (-1), .int .i64 0, .int .i64 4000000, .int .i64 4000001] 2)).trans K6
        have s6 := K7.size
        clear hU3 H4 K5 K6 bA
        go_wp2_with (at_builtin; refine app_int _ rfl _ _ rfl w.heap.size _ _ rfl (hU4.alloc _) w4.heap.size 1 t rfl (by go_cell) (by omega) (by simp; omega) ?_; intro v' w5 hU5 hw5)
        go_returns
        exact ⟨_, L ++ [t], A5, rfl, hU5, by simp; omega, by omega, by omega, (H5.below (Below.alloc (Below.refl _ _) (Nat.le_refl _) _)).up hw5 hg, (K7.alloc).up hw5 (Nat.le_refl _)⟩
      · have n0 : (c == 0) = false := by simpa using e0
        by_cases e1 : c = 1
        · subst e1
          have bA : Below w3.heap.size w3 (w3.alloc (Obj.cells #[.int .i64 16, .int .i64 17] 2)) := Below.alloc (Below.refl _ _) (Nat.le_refl _) _
          go_wp2_with fail
          refine (spec_among g A4 w3.heap.size 0 2 2 (fun j => ([16, 17] : List Int).getD j 0) _ (H4.below bA) (by omega) (fun j hj => by
            rcases (show j = 0 ∨ j = 1 by omega) with rfl | rfl
            all_goals go_cell) (by simp) (by omega) (by omega) (by omega)).mono ?_
          rintro e w4 ⟨j, A5, rfl, hj, a6, a7, H5, K6⟩
          obtain ⟨M, hM, hM2⟩ : ∃ M : Nat, ([16, 17] : List Int).getD j 0 = (M : Int) ∧ M ≤ 17 := by
            rcases (show j = 0 ∨ j = 1 by omega) with rfl | rfl
            · exact ⟨16, rfl, by omega⟩
            · exact ⟨17, rfl, by omega⟩
          rw [hM]
          clear hM hj
          have K7 : Keep g (g + 1) w w4 := (K5.alloc (o := Obj.cells #[.int .i64 16, .int .i64 17] 2)).trans K6
          have s6 := K7.size
          clear hU3 H4 K5 K6 bA
          have hU6 := AppOf.made s6
          have H6 := H5.below (Below.alloc (Below.refl _ _) (Nat.le_refl _) (Obj.cells #[] 2))
          have K8 : Keep g (g + 1) w (w4.alloc (Obj.cells #[] 2)) := K7.alloc
          go_wp2_with fail
          generalize w4.alloc (Obj.cells #[] 2) = w5 at *
          go_loopw [3, 7] (fun u i wr => ∃ (q : Nat) (L : List Int), q ≤ M ∧ i = .int .i64 (q : Int) ∧ L.length = q ∧ AppOf w.heap.size wr u L ∧ SrcAt wr g A5 ∧ Keep g (g + 1) w wr) (fun _ i _ => M - (intOf i).toNat)
          case atStart => exact ⟨0, [], by omega, rfl, rfl, hU6, H6, K8⟩
          case round =>
            clear hU6 H6 K8
            obtain ⟨q, L4, hq, rfl, hL, hU7, H7, K8⟩ := hrel
            have s8 := K8.size
            by_cases hlt2 : q < M
            · have hlt3 : (q : Int) < (M : Int) := by omega
              go_wp2_with (at_builtin; first | (refine app_int _ rfl _ _ rfl w.heap.size _ _ rfl (hU7.alloc _) wr.heap.size 1 (5000 * (q : Int)) rfl (by first | (go_cell; done) | fail) (by omega) (by simp; omega) ?_; intro v' w6 hU8 hw6) | (refine app_int _ rfl _ _ rfl w.heap.size _ _ rfl (hU7.alloc _) wr.heap.size 1 (wrap64 (5000 * (q : Int))) rfl (by first | (go_cell; done) | fail) (by omega) (by simp; omega) ?_; intro v' w6 hU8 hw6))
              go_roundw
              case rel => exact ⟨q + 1, _, by omega, by go_num, by simp; omega, hU8, (H7.below (Below.alloc (Below.refl _ _) (Nat.le_refl _) _)).up hw6 hg, (K8.alloc).up hw6 (Nat.le_refl _)⟩
              case measure => simp [intOf]; omega
            · have hlt3 : ¬ (q : Int) < (M : Int) := by omega
              go_wp2_with fail
              refine bodyPost_ret (by simp [results, Tryd.results70, go_sem, *]; try rfl) rfl ?_
              first | exact ⟨_, L4, A5, rfl, hU7, by omega, by omega, by omega, H7, K8⟩ | exact ⟨_, rfl, L4, hU7, by omega, A5, by omega, by omega, H7, K8⟩
        · have n1 : (c == 1) = false := by simpa using e1
          go_wp2_with fail
          go_returns
          exact ⟨_, L, _, rfl, hU3, by omega, by omega, by omega, H4, K5⟩

set_option maxHeartbeats 4000000 in
set_option maxRecDepth 100000 in
theorem spec_l12Draw (g : Nat) (A : Int) (w : World) (hA : A ≤ 1000) (h : SrcAt w g A) :
    Calls Tryd.prog 48 #[.pointer (some ⟨g, 0, none⟩)] w fun e w' => ∃ v L u P A', e = .returned (.tuple #[v, u]) ∧ AppOf w.heap.size w' v L ∧ L.length ≤ 17 ∧ PsOf w.heap.size w' u P ∧ P.length ≤ 10 ∧ A ≤ A' ∧ A' ≤ A + 300 ∧ SrcAt w' g A' ∧ Keep g (g + 1) w w' := by
  have hg := h.lt
  have H := Lib.hid h
  clear h
  go_enter Tryd.func48, Tryd.ntmps48
  go_wp2_with fail
  refine (spec_l12DrawPlaces g A _ (by omega) H.out).mono ?_
  rintro e w1 ⟨v, L, A1, rfl, hV, hL, a0, a1, H1, K1⟩
  clear H
  have s1 := K1.size
  have hP := PsOf.made s1
  have bA : Below w1.heap.size w1 (w1.alloc (Obj.cells #[] 53)) := Below.alloc (Below.refl _ _) (Nat.le_refl _) _
  have hV2 := hV.below bA
  have H2 := H1.below bA
  have K2 : Keep g (g + 1) w (w1.alloc (Obj.cells #[] 53)) := K1.alloc
  clear hV H1 K1 bA
  go_wp2_with fail
  generalize w1.alloc (Obj.cells #[] 53) = w2 at *
  refine (spec_pick g A1 50 _ H2 (by omega) (by omega)).mono ?_
  rintro e w3 ⟨x, A2, rfl, x0, x1, a2, a3, H3, K3⟩
  have hP3 := hP.keep K3 (by omega)
  have hV3 := hV2.keep K3 (by omega)
  have K4 := K2.trans K3
  obtain ⟨aV, cV, rfl, _, _, _⟩ := id hV3.outc
  clear hP hV2 H2 K2 K3 x1
  go_wp2_with fail
  refine (spec_pick g A2 9 _ H3 (by omega) (by omega)).mono ?_
  rintro e w4 ⟨y, A3, rfl, y0, y1, a4, a5, H4, K5⟩
  have y1' := y1 (by omega)
  obtain ⟨N, rfl⟩ : ∃ N : Nat, y = N := ⟨y.toNat, by omega⟩
  have hP4 := hP3.keep K5 (by omega)
  have hV4 := hV3.keep K5 (by omega)
  have K6 := K4.trans K5
  clear hP3 hV3 H3 K4 K5 y1
  go_wp2_with fail
  go_loopw [5, 6, 8] (fun u z i wr => ∃ (k : Nat) (P : List (Int × Int)) (q A4 : Int), P.length + k ≤ 8 ∧ i = .int .i64 (k : Int) ∧ z = .int .i64 q ∧ PsOf w.heap.size wr u P ∧ AppOf w.heap.size wr (.slice aV L.length cV) L ∧ A ≤ A4 ∧ A4 ≤ A + 120 + 4 * P.length ∧ SrcAt wr g A4 ∧ Keep g (g + 1) w wr) (fun _ _ i _ => (intOf i).toNat)
  case atStart => exact ⟨N, [], x, A3, by simp; omega, rfl, rfl, hP4, hV4, by omega, by simp; omega, H4, K6⟩
  case round => as_aux_lemma =>
    clear hP4 hV4 H4 K6
    obtain ⟨k, P, q, A4, hk, rfl, rfl, hP, hV, b0, b1, H4, K4⟩ := hrel
    have s4 := K4.size
    by_cases hlt : 0 < k ∧ 1 < L.length
    · have l1 : (0 : Int) < (k : Int) := by omega
      have l2 : (1 : Int) < (L.length : Int) := by omega
      go_wp2_with fail
      refine (spec_pick g A4 L.length _ H4 (by omega) (by omega)).mono ?_
      rintro e w5 ⟨sw, A5, rfl, w0, w1', a6, a7, H5, K5⟩
      have w2 := w1' (by omega)
      have hP5 := hP.keep K5 (by omega)
      have hV5 := hV.keep K5 (by omega)
      have K6 := K4.trans K5
      have s6 := K6.size
      have g5 := H5.lt
      clear hP hV H4 K4 K5 w1'
      have bA : Below w5.heap.size w5 (w5.alloc (Obj.cells #[.int .i64 sw, .int .i64 q] 53)) := Below.alloc (Below.refl _ _) (Nat.le_refl _) _
      have hP6 := hP5.below bA
      have hV6 := hV5.below bA
      have H6 := H5.below bA
      have K7 : Keep g (g + 1) w (w5.alloc (Obj.cells #[.int .i64 sw, .int .i64 q] 53)) := K6.alloc
      have X0 : (w5.alloc (Obj.cells #[.int .i64 sw, .int .i64 q] 53)).cell? ⟨w5.heap.size, 0, none⟩ = some (.int .i64 sw) := by go_cell
      have X1 : (w5.alloc (Obj.cells #[.int .i64 sw, .int .i64 q] 53)).cell? ⟨w5.heap.size, 1, none⟩ = some (.int .i64 q) := by go_cell
      have X2 : (w5.alloc (Obj.cells #[.int .i64 sw, .int .i64 q] 53)).frozen? ⟨w5.heap.size, 0, none⟩ = false := by go_simp
      have lX : w5.heap.size < (w5.alloc (Obj.cells #[.int .i64 sw, .int .i64 q] 53)).heap.size := by simp
      have oP : ∀ b, Value.ownBlock u5 = some b → b < w5.heap.size := fun b hb => (World.ownsRow.lt hP5 b hb).2
      have oV : ∀ b, (Value.slice aV L.length cV).ownBlock = some b → b < w5.heap.size := fun b hb => (World.ownsRow.lt hV5 b hb).2
      obtain ⟨aP, cP, rfl, hPA⟩ := hP6.pass
      clear hP5 hV5 H5 K6 bA
      go_upto_region 9 with fail
      generalize w5.alloc (Obj.cells #[.int .i64 sw, .int .i64 q] 53) = w6 at *
      generalize w5.heap.size = X at *
      go_cut [46] (fun b W => W.cell? ⟨X, 0, none⟩ = some (.int .i64 sw) ∧ Below w6.heap.size w6 W ∧ ∃ bb : Bool, b = .bool bb)
      case first => as_aux_lemma =>
        have hB : Below w6.heap.size w6 w6 := Below.refl _ _
        by_cases hp : 0 < P.length
        · obtain ⟨b, o, rfl, hb, hc⟩ := hPA hp
          obtain ⟨d0, _⟩ := hc (P.length - 1) (by omega)
          clear hc hPA hP6 hV6 H6 K7
          dsimp only at d0
          generalize (P.getD (P.length - 1) (0, 0)).1 = pl at *
          generalize hm : P.length - 1 = m at *
          have g1 : (0 : Int) < (P.length : Int) := by omega
          have g2 : wrap64 ((P.length : Int) - 1) = (m : Int) := by unfold wrap64; omega
          have g3 : (m : Int) < (P.length : Int) := by omega
          have g4 : (P.length : Int) - 1 = (m : Int) := by omega
          have g5 : decide ((0 : Int) < (P.length : Int)) = true := decide_eq_true g1
          clear hm
          (refine wp_region_cls (by kernel_rfl) (by kernel_rfl) ?_; (repeat (go_big_quiet_step (fail))); refine wpQuiet_nil ?_; rintro _ ⟨u, rfl⟩; have hb := u.below; replace hB := hB.trans (hb.mono hB.size); generalize u.w = w' at *; obtain ⟨hc, hf, hs⟩ := bkeep hb; have hq' := hb.size; have hq := hB.size; have hb' := hb; clear hb)
          go_wp2
          go_meet
          exact ⟨(hb'.cell (p := ⟨X, 0, none⟩) lX).trans X0, hb', _, rfl⟩
        · obtain rfl : P = [] := List.length_eq_zero_iff.1 (by omega)
          clear hPA hP6 hV6 H6 K7 hp
          (refine wp_region_cls (by kernel_rfl) (by kernel_rfl) ?_; (repeat (go_big_quiet_step (fail))); refine wpQuiet_nil ?_; rintro _ ⟨u, rfl⟩; have hb := u.below; replace hB := hB.trans (hb.mono hB.size); generalize u.w = w' at *; obtain ⟨hc, hf, hs⟩ := bkeep hb; have hq' := hb.size; have hq := hB.size; have hb' := hb; clear hb)
          go_wp2
          go_meet
          exact ⟨(hb'.cell (p := ⟨X, 0, none⟩) lX).trans X0, hb', _, rfl⟩
      case rest => as_aux_lemma =>
        obtain ⟨hx0, hbW, bb, rfl⟩ := hcut
        replace X1 := (hbW.cell (p := ⟨X, 1, none⟩) lX).trans X1
        replace X2 := (hbW.frozen (p := ⟨X, 0, none⟩) lX).trans X2
        replace hP6 := hP6.below hbW
        replace hV6 := hV6.below hbW
        replace H6 := H6.below hbW
        replace K7 := K7.up hbW (by have := K7.size; omega)
        replace lX := Nat.lt_of_lt_of_le lX hbW.size
        clear hbW X0 hPA
        have gX : g < X := by omega
        have n0 : ¬ (L.length : Int) = 0 := by omega
        have s7 := K7.size
        go_upto_if 46 with fail
        go_cut [] (fun W => (∃ s2 : Int, W.cell? ⟨X, 0, none⟩ = some (.int .i64 s2)) ∧ W.cell? ⟨X, 1, none⟩ = some (.int .i64 q) ∧ PsOf w.heap.size W (.slice aP P.length cP) P ∧ AppOf w.heap.size W (.slice aV L.length cV) L ∧ SrcAt W g A5 ∧ Keep g (g + 1) w W ∧ X < W.heap.size)
        case first => as_aux_lemma =>
          cases bb
          · go_wp2
            go_meet
            exact ⟨⟨sw, hx0⟩, X1, hP6, hV6, H6, K7, lX⟩
          · go_wp2_with fail
            go_meet
            exact ⟨⟨_, cell_same hx0⟩, cell_off X1 (by decide), ownsRow_set hP6 oP, ownsRow_set hV6 oV, H6.setUp gX, K7.setFresh (B := 0) (by omega), lt_set lX⟩
        case rest => as_aux_lemma =>
          clear hx0 X1 X2 hP6 hV6 H6 K7 lX s7
          obtain ⟨⟨s2, hx0⟩, hx1, hP, hV, H7, K7, lX⟩ := hcut
          have s7 := K7.size
          go_wp2_with (at_builtin; refine app_pass _ rfl _ _ rfl w.heap.size (.slice aP P.length cP) P rfl (hP.alloc _) wc.heap.size 1 s2 q rfl (by go_cell) (by go_cell) (by omega) (by simp; omega) ?_; intro v' w8 hP8 hw8 hk8)
          have H8 := (H7.below (Below.alloc (Below.refl _ _) (Nat.le_refl _) (Obj.cells #[.int .i64 s2, .int .i64 q] 53))).up hw8 hg
          have K8 := (K7.alloc (o := (Obj.cells #[.int .i64 s2, .int .i64 q] 53))).up hw8 (Nat.le_refl _)
          have hV8 : AppOf w.heap.size w8 (.slice aV L.length cV) L := ownsRow_blk (hV.alloc (Obj.cells #[.int .i64 s2, .int .i64 q] 53)) (fun b hb => hk8 b ((World.ownsRow.lt (hV.alloc (Obj.cells #[.int .i64 s2, .int .i64 q] 53)) b hb).2) (ownsRow_apart (hP.alloc (Obj.cells #[.int .i64 s2, .int .i64 q] 53)) (hV.alloc (Obj.cells #[.int .i64 s2, .int .i64 q] 53)) (by decide) b hb))
          clear hP hV H7 K7 hk8 hw8
          refine (spec_pick g A5 30 _ H8 (by omega) (by omega)).mono ?_
          rintro e w9 ⟨r, A6, rfl, r0, r1, c6, c7, H9, K9⟩
          have hP9 := hP8.keep K9 (by omega)
          have hV9 := hV8.keep K9 (by omega)
          have K10 := K8.trans K9
          clear hP8 hV8 H8 K8 K9 r1
          go_wp2_with fail
          go_roundw
          case rel => exact ⟨k - 1, P ++ [(s2, q)], _, A6, by simp; omega, by go_num, rfl, hP9, hV9, by omega, by simp; omega, H9, K10⟩
          case measure => simp [intOf]; omega
    · have hex : ¬ 0 < k ∨ (0 < k ∧ ¬ 1 < L.length) := by omega
      have s4 := K4.size
      rcases hex with hex | ⟨hex, hex2⟩
      all_goals
        first | (have z1 : ¬ (0 : Int) < (k : Int) := by omega) | skip
        first | (have z2 : ¬ (1 : Int) < (L.length : Int) := by omega) | skip
        go_wp2_with fail
        refine (spec_pick g A4 24 _ H4 (by omega) (by omega)).mono ?_
        rintro e w5 ⟨c, A5, rfl, c0, c1, a6, a7, H5, K5⟩
        have hP5 := hP.keep K5 (by omega)
        have hV5 := hV.keep K5 (by omega)
        have K6 := K4.trans K5
        have s6 := K6.size
        have g5 := H5.lt
        clear hP hV H4 K4 K5 c1
        by_cases e0 : c = 0
        · subst e0
          have bA : Below w5.heap.size w5 (w5.alloc (Obj.cells #[.int .i64 (-1), .int .i64 (0), .int .i64 ((L.length : Int))] 2)) := Below.alloc (Below.refl _ _) (Nat.le_refl _) _
          go_wp2_with fail
          refine (spec_among g A5 w5.heap.size 0 3 3 (fun j => ([-1, 0, (L.length : Int)] : List Int).getD j 0) _ (H5.below bA) (by omega) (fun j hj => by
            rcases (show j = 0 ∨ j = 1 ∨ j = 2 by omega) with rfl | rfl | rfl
            all_goals go_cell) (by simp) (by omega) (by omega) (by omega)).mono ?_
          rintro e w6 ⟨j, A7, rfl, hj, a8, a9, H8, K8⟩
          generalize ([-1, 0, (L.length : Int)] : List Int).getD j 0 = t at *
          have hP8 := (hP5.below bA).keep K8 (by omega)
          have hV8 := (hV5.below bA).keep K8 (by omega)
          have K9 : Keep g (g + 1) w w6 := (K6.alloc (o := Obj.cells #[.int .i64 (-1), .int .i64 (0), .int .i64 ((L.length : Int))] 2)).trans K8
          have s9 := K9.size
          clear hP5 hV5 K6 K8 bA H5
          obtain ⟨aP, cP, rfl, _⟩ := hP8.pass
          go_wp2_with (at_builtin; refine app_pass _ rfl _ _ rfl w.heap.size (.slice aP P.length cP) P rfl (hP8.alloc _) w6.heap.size 1 (t) (q) rfl (by go_cell) (by go_cell) (by omega) (by simp; omega) ?_; intro v' w8 hP9 hw8 hk8)
          have H9 := (H8.below (Below.alloc (Below.refl _ _) (Nat.le_refl _) (Obj.cells #[.int .i64 (t), .int .i64 (q)] 53))).up hw8 hg
          have K10 := (K9.alloc (o := (Obj.cells #[.int .i64 (t), .int .i64 (q)] 53))).up hw8 (Nat.le_refl _)
          have hV9 : AppOf w.heap.size w8 (.slice aV L.length cV) L := ownsRow_blk (hV8.alloc (Obj.cells #[.int .i64 (t), .int .i64 (q)] 53)) (fun b hb => hk8 b ((World.ownsRow.lt (hV8.alloc (Obj.cells #[.int .i64 (t), .int .i64 (q)] 53)) b hb).2) (ownsRow_apart (hP8.alloc (Obj.cells #[.int .i64 (t), .int .i64 (q)] 53)) (hV8.alloc (Obj.cells #[.int .i64 (t), .int .i64 (q)] 53)) (by decide) b hb))
          clear hP8 hV8 H8 K9 hk8 hw8
          go_wp2_with fail
          refine bodyPost_ret (by simp [results, Tryd.results48, go_sem, *]; try rfl) rfl ?_
          exact ⟨_, L, _, P ++ [(t, q)], A7, rfl, hV9, hL, hP9, by simp; omega, by omega, by omega, H9, K10⟩
        · have m0 : (c == 0) = false := by simpa using e0
          by_cases e1 : c = 1
          · subst e1
            have bA : Below w5.heap.size w5 (w5.alloc (Obj.cells #[.int .i64 (-1), .int .i64 (0), .int .i64 (1000000), .int .i64 (1000001)] 2)) := Below.alloc (Below.refl _ _) (Nat.le_refl _) _
            go_wp2_with fail
            refine (spec_among g A5 w5.heap.size 0 4 4 (fun j => ([-1, 0, 1000000, 1000001] : List Int).getD j 0) _ (H5.below bA) (by omega) (fun j hj => by
              rcases (show j = 0 ∨ j = 1 ∨ j = 2 ∨ j = 3 by omega) with rfl | rfl | rfl | rfl
              all_goals go_cell) (by simp) (by omega) (by omega) (by omega)).mono ?_
            rintro e w6 ⟨j, A7, rfl, hj, a8, a9, H8, K8⟩
            generalize ([-1, 0, 1000000, 1000001] : List Int).getD j 0 = t at *
            have hP8 := (hP5.below bA).keep K8 (by omega)
            have hV8 := (hV5.below bA).keep K8 (by omega)
            have K9 : Keep g (g + 1) w w6 := (K6.alloc (o := Obj.cells #[.int .i64 (-1), .int .i64 (0), .int .i64 (1000000), .int .i64 (1000001)] 2)).trans K8
            have s9 := K9.size
            clear hP5 hV5 K6 K8 bA H5
            obtain ⟨aP, cP, rfl, _⟩ := hP8.pass
            go_wp2_with (at_builtin; refine app_pass _ rfl _ _ rfl w.heap.size (.slice aP P.length cP) P rfl (hP8.alloc _) w6.heap.size 1 (0) (t) rfl (by go_cell) (by go_cell) (by omega) (by simp; omega) ?_; intro v' w8 hP9 hw8 hk8)
            have H9 := (H8.below (Below.alloc (Below.refl _ _) (Nat.le_refl _) (Obj.cells #[.int .i64 (0), .int .i64 (t)] 53))).up hw8 hg
            have K10 := (K9.alloc (o := (Obj.cells #[.int .i64 (0), .int .i64 (t)] 53))).up hw8 (Nat.le_refl _)
            have hV9 : AppOf w.heap.size w8 (.slice aV L.length cV) L := ownsRow_blk (hV8.alloc (Obj.cells #[.int .i64 (0), .int .i64 (t)] 53)) (fun b hb => hk8 b ((World.ownsRow.lt (hV8.alloc (Obj.cells #[.int .i64 (0), .int .i64 (t)] 53)) b hb).2) (ownsRow_apart (hP8.alloc (Obj.cells #[.int .i64 (0), .int .i64 (t)] 53)) (hV8.alloc (Obj.cells #[.int .i64 (0), .int .i64 (t)] 53)) (by decide) b hb))
            clear hP8 hV8 H8 K9 hk8 hw8
            go_wp2_with fail
            refine bodyPost_ret (by simp [results, Tryd.results48, go_sem, *]; try rfl) rfl ?_
            exact ⟨_, L, _, P ++ [(0, t)], A7, rfl, hV9, hL, hP9, by simp; omega, by omega, by omega, H9, K10⟩
          · have m1 : (c == 1) = false := by simpa using e1
            go_wp2_with fail
            refine bodyPost_ret (by simp [results, Tryd.results48, go_sem, *]; try rfl) rfl ?_
            exact ⟨_, L, _, P, A5, rfl, hV5, hL, hP5, by omega, by omega, by omega, H5, K6⟩
/-- The slice value is a row of at most m passings that lie in a block of the call's own from B on. -/
def PassIn (w : World) (u : Value) (m : Nat) : Prop := ∃ (a : Option Addr) (n c : Nat) (S T : Nat → Int), u = .slice a n c ∧ n ≤ m ∧ PassAt w a n S T
theorem PsOf.passIn {B : Nat} {w : World} {v : Value} {L : List (Int × Int)} {m : Nat} (h : PsOf B w v L) (hm : L.length ≤ m) : PassIn w v m := by
  obtain ⟨a, c, e, hp⟩ := h.pass
  exact ⟨a, _, c, _, _, e, hm, hp⟩
def PlacesIn (w : World) (u : Value) (m : Nat) : Prop := ∃ (a : Option Addr) (n c : Nat) (Z : Nat → Int), u = .slice a n c ∧ n ≤ m ∧ IntsAt w a n Z
theorem AppOf.places {B : Nat} {w : World} {v : Value} {L : List Int} {m : Nat} (h : AppOf B w v L) (hm : L.length ≤ m) : PlacesIn w v m := by
  obtain ⟨a, c, e, _, _, ho⟩ := h.outc
  exact ⟨a, _, c, _, e, hm, ho.ints⟩

theorem spec_DrawSpeedsBetween (a : Option Addr) (n c : Nat) (w : World) (h : BytesAt w a n) (hn : n ≤ 1048576) :
    Calls Tryd.prog 19 #[.slice a n c] w fun e w' => ∃ v u, e = .returned (.tuple #[v, u]) ∧ PlacesIn w' v 17 ∧ PassIn w' u 10 ∧ Below w.heap.size w w' := by
  have H := Lib.hid h
  clear h
  go_enter Tryd.func19, Tryd.ntmps19
  go_wp2_with fail
  refine (spec_l00From a n c _ H.out hn).mono ?_
  rintro e w1 ⟨g, rfl, hg, HS, hb⟩
  have s1 := hb.size
  have lg := HS.lt
  go_wp2_with fail
  refine (spec_l12Draw g 0 _ (by omega) HS).mono ?_
  rintro e w2 ⟨v, L, u, P, A2, rfl, hV, hL, hP, hPl, a0, a1, H2, K2⟩
  have hB2 : Below w.heap.size w w2 := hb.trans (K2.below (by omega) s1)
  clear HS
  go_wp2_with fail
  go_returns
  exact ⟨v, u, rfl, hV.places hL, hP.passIn hPl, hB2⟩

theorem spec_DrawTooFast (a : Option Addr) (n c : Nat) (w : World) (h : BytesAt w a n) (hn : n ≤ 1048576) :
    Calls Tryd.prog 30 #[.slice a n c] w fun e w' => ∃ v u q, e = .returned (.tuple #[v, u, .int .i64 q]) ∧ PlacesIn w' v 17 ∧ PassIn w' u 10 ∧ Below w.heap.size w w' := by
  have H := Lib.hid h
  clear h
  go_enter Tryd.func30, Tryd.ntmps30
  go_wp2_with fail
  refine (spec_l00From a n c _ H.out hn).mono ?_
  rintro e w1 ⟨g, rfl, hg, HS, hb⟩
  have s1 := hb.size
  have lg := HS.lt
  go_wp2_with fail
  refine (spec_l12Draw g 0 _ (by omega) HS).mono ?_
  rintro e w2 ⟨v, L, u, P, A2, rfl, hV, hL, hP, hPl, a0, a1, H2, K2⟩
  have hB2 : Below w.heap.size w w2 := hb.trans (K2.below (by omega) s1)
  clear HS
  have g2 := H2.lt
  have bA : Below w2.heap.size w2 (w2.alloc (Obj.cells #[.int .i64 0, .int .i64 500, .int .i64 2000, .int .i64 6000, .int .i64 100000, .int .i64 100001, .int .i64 (-1)] 2)) := Below.alloc (Below.refl _ _) (Nat.le_refl _) _
  go_wp2_with fail
  refine (spec_among g A2 w2.heap.size 0 7 7 (fun j => ([0, 500, 2000, 6000, 100000, 100001, -1] : List Int).getD j 0) _ (H2.below bA) (by omega) (fun j hj => by
    rcases (show j = 0 ∨ j = 1 ∨ j = 2 ∨ j = 3 ∨ j = 4 ∨ j = 5 ∨ j = 6 by omega) with rfl | rfl | rfl | rfl | rfl | rfl | rfl
    all_goals go_cell) (by simp) (by omega) (by omega) (by omega)).mono ?_
  rintro e w3 ⟨j, A3, rfl, hj, a6, a7, H3, K3⟩
  generalize ([0, 500, 2000, 6000, 100000, 100001, -1] : List Int).getD j 0 = t at *
  have s2 := hB2.size
  have hV3 := (hV.below bA).keep K3 (by omega)
  have hP3 := (hP.below bA).keep K3 (by omega)
  have hB3 : Below w.heap.size w w3 := (hB2.trans (bA.mono s2)).trans (K3.below (by omega) (by simp; omega))
  clear hV hP hB2 H2 K2 K3 bA
  go_wp2_with fail
  go_returns
  exact ⟨v, u, t, rfl, hV3.places hL, hP3.passIn hPl, hB3⟩

end Go.Proofs.YtdhjnpjemaofoaaDoor
