/-
  Contracts: the inputs of the law of gears drawn from bytes.
-/
import Derived.Test.YtejhngkbkcalaaaDm
import Derived.Test.YtejhngkbkcalaaaUp
import Derived.Test.YtejhngkbkcalaaaKC
import Derived.Deep.CutBlock
namespace Go.Proofs.Ytejhngkbkcalaaa
open Go.RowKit
set_option linter.unusedVariables false
set_option linter.unusedSimpArgs false

theorem Row3.lowm {w w' : World} {g B : Nat} {x y z : Value} (h : Row3 w g x y z) (k : Below B w w') (hg : g < B) : Row3 w' g x y z :=
  ⟨(k.cell (p := ⟨g, 0, none⟩) hg).trans h.c0, (k.cell (p := ⟨g, 1, none⟩) hg).trans h.c1, (k.cell (p := ⟨g, 2, none⟩) hg).trans h.c2,
   (k.frozen (p := ⟨g, 0, none⟩) hg).trans h.f0, (k.frozen (p := ⟨g, 1, none⟩) hg).trans h.f1, (k.frozen (p := ⟨g, 2, none⟩) hg).trans h.f2, Nat.lt_of_lt_of_le h.lt k.size⟩
/-- Prices: at most ten numbers, or at most 61 zeros. -/
def HoursIn (B : Nat) (w : World) (v : Value) : Prop := ∃ (a : Option Addr) (n c : Nat) (Z : Nat → Int), v = .slice a n c ∧ OwnIn B w.heap.size w a n (fun j => .int .i64 (Z j)) ∧ (n ≤ 10 ∨ (n ≤ 61 ∧ ∀ j, j < n → Z j = 0))
theorem HoursIn.keep {B g : Nat} {w w' : World} {v : Value} (h : HoursIn B w v) (k : Keep g (g + 1) w w') (hg : g < B) : HoursIn B w' v := by
  obtain ⟨a, n, c, Z, rfl, h4, h5⟩ := h
  exact ⟨a, n, c, Z, rfl, (h4.keep k (by omega)).mono (Nat.le_refl _) k.size, h5⟩
theorem HoursIn.below {B : Nat} {w w' : World} {v : Value} (h : HoursIn B w v) (k : Below w.heap.size w w') : HoursIn B w' v := by
  obtain ⟨a, n, c, Z, rfl, h4, h5⟩ := h
  exact ⟨a, n, c, Z, rfl, (h4.below k).mono (Nat.le_refl _) k.size, h5⟩
theorem AppOf.hours {B : Nat} {w : World} {v : Value} {L : List Int} (h : AppOf B w v L) (hm : L.length ≤ 10) : HoursIn B w v := by
  obtain ⟨a, c, rfl, h1, h2, h3⟩ := h.outc
  exact ⟨a, L.length, c, fun j => L.getD j 0, rfl, h3, Or.inl hm⟩
theorem hours_zero {B : Nat} (w : World) (n : Nat) (t : TypeId) (h : B ≤ w.heap.size) (hn : n ≤ 61) : HoursIn B (w.alloc (.cells (madeCells #[.int .i64 0] n) t)) (.slice (some ⟨w.heap.size, 0, none⟩) n n) := by
  have ho := own_new (lo := B) (hi := (w.alloc (.cells (madeCells #[.int .i64 0] n) t)).heap.size) w (madeCells #[.int .i64 0] n) t h (by simp)
  rw [size_madeCells] at ho
  refine ⟨_, n, n, fun _ => 0, rfl, ho.cong (fun j hj => ?_), Or.inr ⟨hn, fun j hj => rfl⟩⟩
  have e : madeCells #[Value.int .i64 0] n = ⟨List.replicate n (.int .i64 0)⟩ := by
    rw [← toList_madeCells_one]
  rw [e]
  simp [hj]

set_option maxHeartbeats 1000000 in
theorem spec_l04DrawSpeed (g : Nat) (A : Int) (w : World) (hA : A ≤ 1000) (h : SrcAt w g A) :
    Calls Try.prog 22 #[.pointer (some ⟨g, 0, none⟩)] w fun e w' => ∃ v A', e = .returned (.int .i64 v) ∧ A ≤ A' ∧ A' ≤ A + 6 ∧ SrcAt w' g A' ∧ Keep g (g + 1) w w' := by
  have hg := h.lt
  have H := Lib.hid h
  clear h
  go_enter Try.func22, Try.ntmps22
  go_wp2_with fail
  refine (spec_one g A 9 _ H.out (by omega) (by omega)).mono ?_
  rintro e w1 ⟨bb, A1, rfl, a0, a1, H1, K1⟩
  have s1 := H1.lt
  clear H
  cases bb
  · go_wp2_with fail
    refine (spec_pick g A1 240 _ H1 (by omega) (by omega)).mono ?_
    rintro e w2 ⟨x, A2, rfl, x0, x1, a2, a3, H2, K2⟩
    have x1' := x1 (by omega)
    go_wp2_with fail
    go_returns
    exact ⟨_, A2, rfl, by omega, by omega, H2, K1.trans K2⟩
  · go_wp2_with fail
    refine (spec_among g A1 w1.heap.size 0 4 4 (fun j => ([-1, 0, 20000, 20001] : List Int).getD j 0) _ (H1.below (Below.alloc (Below.refl _ _) (Nat.le_refl _) _)) (by omega) (fun j hj => by
      rcases (show j = 0 ∨ j = 1 ∨ j = 2 ∨ j = 3 by omega) with rfl | rfl | rfl | rfl
      all_goals go_cell) (by simp) (by omega) (by omega) (by omega)).mono ?_
    rintro e w2 ⟨j, A2, rfl, hj, a6, a7, H2, K2⟩
    have K3 := (K1.alloc (o := (Obj.cells #[.int .i64 (-1), .int .i64 0, .int .i64 20000, .int .i64 20001] 2))).trans K2
    generalize ([-1, 0, 20000, 20001] : List Int).getD j 0 = z at *
    go_wp2_with fail
    go_returns
    exact ⟨_, A2, rfl, by omega, by omega, H2, K3⟩

set_option maxHeartbeats 1000000 in
theorem spec_DrawStepsToHot (a : Option Addr) (n c : Nat) (w : World) (h : BytesAt w a n) (hn : n ≤ 1048576) :
    Calls Try.prog 9 #[.slice a n c] w fun e w' => ∃ x h' c' t : Int, e = .returned (.tuple #[.int .i64 x, .int .i64 h', .int .i64 c', .int .i64 t]) ∧ Below w.heap.size w w' := by
  have H := Lib.hid h
  clear h
  go_enter Try.func9, Try.ntmps9
  go_wp2_with fail
  refine (spec_l00From a n c _ H.out hn).mono ?_
  rintro e w1 ⟨g, rfl, hg, HS, hb⟩
  have s1 := hb.size
  have lg := HS.lt
  clear H
  go_wp2_with fail
  refine (spec_l10DrawWarm g 0 _ (by omega) HS).mono ?_
  rintro e w2 ⟨v1, A1, rfl, a0, a1, H1, K1⟩
  have hB1 := hb.trans (K1.below (by omega) s1)
  clear HS K1 hb
  go_wp2_with fail
  refine (spec_l10DrawShare g A1 _ (by omega) H1).mono ?_
  rintro e w3 ⟨v2, A2, rfl, a2, a3, H2, K2⟩
  have hB2 := hB1.trans (K2.below (by omega) hB1.size)
  clear H1 K2 hB1
  go_wp2_with fail
  refine (spec_l10DrawShare g A2 _ (by omega) H2).mono ?_
  rintro e w4 ⟨v3, A3, rfl, a4, a5, H3, K3⟩
  have hB3 := hB2.trans (K3.below (by omega) hB2.size)
  have g3 := H3.lt
  clear H2 K3 hB2
  go_wp2_with fail
  refine (spec_among g A3 w4.heap.size 0 8 8 (fun j => ([0, 100, 500, 900, 6000, 1000000, 1000001, -1] : List Int).getD j 0) _ (H3.below (Below.alloc (Below.refl _ _) (Nat.le_refl _) _)) (by omega) (fun j hj => by
    rcases (show j = 0 ∨ j = 1 ∨ j = 2 ∨ j = 3 ∨ j = 4 ∨ j = 5 ∨ j = 6 ∨ j = 7 by omega) with rfl | rfl | rfl | rfl | rfl | rfl | rfl | rfl
    all_goals go_cell) (by simp) (by omega) (by omega) (by omega)).mono ?_
  rintro e w5 ⟨j, A4, rfl, hj, a6, a7, H4, K4⟩
  have hB4 := (hB3.alloc hB3.size (Obj.cells #[.int .i64 0, .int .i64 100, .int .i64 500, .int .i64 900, .int .i64 6000, .int .i64 1000000, .int .i64 1000001, .int .i64 (-1)] 2)).trans (K4.below (by omega) (by have := hB3.size; simp; omega))
  generalize ([0, 100, 500, 900, 6000, 1000000, 1000001, -1] : List Int).getD j 0 = z at *
  go_wp2_with fail
  go_returns
  exact ⟨v1, v2, v3, z, rfl, hB4⟩

set_option maxHeartbeats 2000000 in
theorem spec_DrawPeakFree (a : Option Addr) (n c : Nat) (w : World) (h : BytesAt w a n) (hn : n ≤ 1048576) :
    Calls Try.prog 12 #[.slice a n c] w fun e w' => ∃ aF nF cF F t, e = .returned (.tuple #[.slice aF nF cF, .int .i64 t]) ∧ nF ≤ 61 ∧ IntsAt w' aF nF F ∧ Below w.heap.size w w' := by
  have H := Lib.hid h
  clear h
  go_enter Try.func12, Try.ntmps12
  go_wp2_with fail
  refine (spec_l00From a n c _ H.out hn).mono ?_
  rintro e w1 ⟨g, rfl, hg, HS, hb⟩
  have s1 := hb.size
  have lg := HS.lt
  clear H
  go_wp2_with fail
  refine (spec_l10DrawForces g 0 _ (by omega) HS).mono ?_
  rintro e w2 ⟨v, A2, rfl, ⟨a', n', c', Z, rfl, n61, -, -, hO, -⟩, a0, a1, H2, K2⟩
  have hB2 : Below w.heap.size w w2 := hb.trans (K2.below (by omega) s1)
  have s2 := hB2.size
  clear HS K2 hb
  go_wp2_with fail
  refine (spec_one g A2 8 _ H2 (by omega) (by omega)).mono ?_
  rintro e w3 ⟨bb, A3, rfl, a2, a3, H3, K3⟩
  have hO3 := (hO.keep K3 (by omega)).mono (Nat.le_refl _) K3.size
  have hB3 := hB2.trans (K3.below (by omega) s2)
  have s3 := hB3.size
  clear hO H2 K3 hB2
  generalize w1.heap.size = B1 at *
  go_upto_if 13 with fail
  generalize (!bb) = nb
  go_cut [] (fun W => ∃ Z' : Nat → Int, OwnIn B1 W.heap.size W a' n' (fun j => .int .i64 (Z' j)) ∧ SrcAt W g A3 ∧ Below w.heap.size w W)
  case first =>
    cases nb
    · go_wp2_with fail
      go_meet
      exact ⟨Z, hO3, H3, hB3⟩
    · go_wp2_with fail
      go_loopw [6] (fun i wr => ∃ k : Nat, k ≤ n' ∧ i = .int .i64 (k : Int) ∧ (∃ Z' : Nat → Int, OwnIn B1 wr.heap.size wr a' n' (fun j => .int .i64 (Z' j))) ∧ SrcAt wr g A3 ∧ Below w.heap.size w wr) (fun i _ => n' - (intOf i).toNat)
      case atStart => exact ⟨0, by omega, rfl, ⟨Z, hO3⟩, H3, hB3⟩
      case round =>
        clear hO3 H3 hB3
        obtain ⟨k, hk, rfl, ⟨Z', hP⟩, H3, hB3⟩ := hrel
        have HP := Lib.hid hP
        by_cases hlt : k < n'
        · obtain ⟨bl, rfl, l1, l2, l3, hc⟩ := id hP (by omega)
          have ck : wr.cell? ⟨bl, k, none⟩ = some (.int .i64 (Z' k)) := (hc k hlt).1
          have fk := (hc k hlt).2
          have k0 : (k : Int) < (n' : Int) := by omega
          obtain ⟨zk, hzk⟩ : ∃ zk, Z' k = zk := ⟨_, rfl⟩
          rw [hzk] at ck
          have km := fun W => spec_l00Max 0 zk W
          clear hP hc hzk
          go_wp2_with (go_at_call 39; (with_reducible refine (km _).mono ?_); rintro e w' ⟨rfl, rfl⟩)
          go_roundw
          case rel => exact ⟨k + 1, by omega, by go_num, ⟨(fun q => if q = k then max 0 zk else Z' q), ((HP.out.set hlt (.int .i64 (max 0 zk))).cong (fun q hq => by by_cases h1 : q = k <;> simp [h1])).mono (Nat.le_refl _) (by simp)⟩, H3.setUp (by omega), below_set hB3 (by omega)⟩
          case measure => simp [intOf]; omega
        · obtain rfl : k = n' := by omega
          go_wp2_with fail
          go_meet
          exact ⟨Z', HP.out, H3, hB3⟩
  case rest =>
    clear hO3 H3 hB3
    obtain ⟨Z', hO, H3, hB3⟩ := hcut
    have g3 := H3.lt
    go_wp2_with fail
    refine (spec_among g A3 wc.heap.size 0 8 8 (fun j => ([500, 2000, 4000, 9000, 1000000, 1000001, 0, 1] : List Int).getD j 0) _ (H3.below (Below.alloc (Below.refl _ _) (Nat.le_refl _) _)) (by omega) (fun j hj => by
      rcases (show j = 0 ∨ j = 1 ∨ j = 2 ∨ j = 3 ∨ j = 4 ∨ j = 5 ∨ j = 6 ∨ j = 7 by omega) with rfl | rfl | rfl | rfl | rfl | rfl | rfl | rfl
      all_goals go_cell) (by simp) (by omega) (by omega) (by omega)).mono ?_
    rintro e w5 ⟨j, A4, rfl, hj, a6, a7, H4, K4⟩
    have hB4 := (hB3.alloc hB3.size (Obj.cells #[.int .i64 500, .int .i64 2000, .int .i64 4000, .int .i64 9000, .int .i64 1000000, .int .i64 1000001, .int .i64 0, .int .i64 1] 2)).trans (K4.below (by omega) (by have := hB3.size; simp; omega))
    have hO4 := (hO.below (Below.alloc (Below.refl _ _) (Nat.le_refl _) (Obj.cells #[.int .i64 500, .int .i64 2000, .int .i64 4000, .int .i64 9000, .int .i64 1000000, .int .i64 1000001, .int .i64 0, .int .i64 1] 2))).keep K4 (by omega)
    generalize ([500, 2000, 4000, 9000, 1000000, 1000001, 0, 1] : List Int).getD j 0 = z at *
    go_wp2_with fail
    go_returns
    exact ⟨a', n', c', Z', z, rfl, n61, hO4.ints, hB4⟩

set_option maxHeartbeats 4000000 in
theorem spec_DrawCheapestHours (a : Option Addr) (n c : Nat) (w : World) (h : BytesAt w a n) (hn : n ≤ 1048576) :
    Calls Try.prog 15 #[.slice a n c] w fun e w' => ∃ aP nP cP P r t, e = .returned (.tuple #[.slice aP nP cP, .int .i64 r, .int .i64 t]) ∧ (nP ≤ 10 ∨ (nP ≤ 61 ∧ ∀ j, j < nP → P j = 0)) ∧ IntsAt w' aP nP P ∧ Below w.heap.size w w' := by
  have H := Lib.hid h
  clear h
  go_enter Try.func15, Try.ntmps15
  go_wp2_with fail
  refine (spec_l00From a n c _ H.out hn).mono ?_
  rintro e w1 ⟨g, rfl, hg, HS, hb⟩
  have s1 := hb.size
  have lg := HS.lt
  clear H
  go_wp2_with fail
  refine (spec_pick g 0 10 _ (HS.below (Below.alloc (Below.refl _ _) (Nat.le_refl _) _)) (by omega) (by omega)).mono ?_
  rintro e w2 ⟨y, A2, rfl, y0, y1, a0, a1, H2, K2⟩
  have y1' := y1 (by omega)
  obtain ⟨N, rfl⟩ : ∃ N : Nat, y = N := ⟨y.toNat, by omega⟩
  have hU2 := (AppOf.made (Nat.le_refl w1.heap.size)).keep K2 (by omega)
  have hB2 : Below w.heap.size w w2 := (hb.alloc s1 _).trans (K2.below (by omega) (by simp; omega))
  have t2 : w1.heap.size ≤ w2.heap.size := by
    have := K2.size
    simp at this
    omega
  clear HS K2 hb y1
  generalize w1.heap.size = B1 at *
  go_wp2_with fail
  go_loopw [6, 7] (fun u i wr => ∃ (k : Nat) (L : List Int) (A4 : Int), L.length + k = N ∧ i = .int .i64 (k : Int) ∧ AppOf B1 wr u L ∧ A4 ≤ 4 + 4 * L.length ∧ SrcAt wr g A4 ∧ Below w.heap.size w wr ∧ B1 ≤ wr.heap.size) (fun _ i _ => (intOf i).toNat)
  case atStart => exact ⟨N, [], A2, by simp, by go_num, hU2, by simp; omega, H2, hB2, t2⟩
  case round =>
    clear hU2 H2 hB2 a0 a1
    obtain ⟨k, L, A4, hk, rfl, hU, b1, H4, hB, tr⟩ := hrel
    have sB := hB.size
    by_cases hlt : 0 < k
    · have hlt' : (0 : Int) < (k : Int) := by omega
      go_wp2_with fail
      refine (spec_pick g A4 12 _ H4 (by omega) (by omega)).mono ?_
      rintro e w4 ⟨z, A5, rfl, z0, z1, a4, a5, H5, K5⟩
      have z1' := z1 (by omega)
      have hU5 := hU.keep K5 (by omega)
      have hB5 := hB.trans (K5.below (by omega) (by omega))
      have s5 := K5.size
      clear hU H4 K5 hB z1
      go_wp2_with (at_builtin; refine app_int _ rfl _ _ rfl B1 _ _ rfl (hU5.alloc _) w4.heap.size 1 (10 * z) rfl (by go_cell) (by omega) (by simp; omega) ?_; intro v' w5 hU6 hw5)
      go_roundw
      case rel => exact ⟨k - 1, L ++ [10 * z], A5, by simp; omega, by go_num, hU6, by simp; omega, (H5.below (Below.alloc (Below.refl _ _) (Nat.le_refl _) _)).up hw5 (by omega), (hB5.alloc hB5.size _).trans (hw5.mono (by omega)), by have := hw5.size; simp at this; omega⟩
      case measure => simp [intOf]; omega
    · obtain rfl : k = 0 := by omega
      go_wp2_with fail
      refine (spec_pick g A4 16 _ H4 (by omega) (by omega)).mono ?_
      rintro e w4 ⟨y, A5, rfl, y0, y1, a4, a5, H5, K5⟩
      have y1' := y1 (by omega)
      have hU5 := hU.keep K5 (by omega)
      have hB5 := hB.trans (K5.below (by omega) (by omega))
      have s5 := K5.size
      have g5 := H5.lt
      clear hU H4 K5 hB y1
      go_upto_block 2 with fail
      go_cut [6] (fun u W => ∃ A6, HoursIn B1 W u ∧ A6 ≤ 100 ∧ SrcAt W g A6 ∧ Below w.heap.size w W)
      case first =>
        by_cases e0 : y = 0
        · subst e0
          go_wp2_with fail
          refine (spec_among g A5 w4.heap.size 0 4 4 (fun j => ([-1, 0, 10000, 10001] : List Int).getD j 0) _ (H5.below (Below.alloc (Below.refl _ _) (Nat.le_refl _) _)) (by omega) (fun j hj => by
            rcases (show j = 0 ∨ j = 1 ∨ j = 2 ∨ j = 3 by omega) with rfl | rfl | rfl | rfl
            all_goals go_cell) (by simp) (by omega) (by omega) (by omega)).mono ?_
          rintro e w5 ⟨j, A6, rfl, hj, a6, a7, H6, K6⟩
          have hU6 := (hU5.below (Below.alloc (Below.refl _ _) (Nat.le_refl _) (Obj.cells #[.int .i64 (-1), .int .i64 0, .int .i64 10000, .int .i64 10001] 2))).keep K6 (by omega)
          have hB6 := (hB5.alloc hB5.size (Obj.cells #[.int .i64 (-1), .int .i64 0, .int .i64 10000, .int .i64 10001] 2)).trans (K6.below (by omega) (by have := hB5.size; simp; omega))
          have s6 := K6.size
          simp at s6
          generalize ([-1, 0, 10000, 10001] : List Int).getD j 0 = z at *
          clear hU5 H5 K6 hB5
          go_wp2_with (at_builtin; refine app_int _ rfl _ _ rfl B1 _ _ rfl (hU6.alloc _) w5.heap.size 1 z rfl (by go_cell) (by omega) (by simp; omega) ?_; intro v' w6 hU7 hw6)
          go_meet
          exact ⟨A6, hU7.hours (by simp; omega), by omega, (H6.below (Below.alloc (Below.refl _ _) (Nat.le_refl _) _)).up hw6 (by omega), (hB6.alloc hB6.size _).trans (hw6.mono (by omega))⟩
        · by_cases e1 : y = 1
          · subst e1
            go_wp2_with fail
            refine (spec_among g A5 w4.heap.size 0 2 2 (fun j => ([60, 61] : List Int).getD j 0) _ (H5.below (Below.alloc (Below.refl _ _) (Nat.le_refl _) _)) (by omega) (fun j hj => by
              rcases (show j = 0 ∨ j = 1 by omega) with rfl | rfl
              all_goals go_cell) (by simp) (by omega) (by omega) (by omega)).mono ?_
            rintro e w5 ⟨j, A6, rfl, hj, a6, a7, H6, K6⟩
            have hB6 := (hB5.alloc hB5.size (Obj.cells #[.int .i64 60, .int .i64 61] 2)).trans (K6.below (by omega) (by have := hB5.size; simp; omega))
            have s6 := K6.size
            simp at s6
            clear hU5 H5 K6 hB5
            obtain ⟨m, hm, hm2⟩ : ∃ m : Nat, ([60, 61] : List Int).getD j 0 = (m : Int) ∧ m ≤ 61 := by
              rcases (show j = 0 ∨ j = 1 by omega) with rfl | rfl
              · exact ⟨60, rfl, by omega⟩
              · exact ⟨61, rfl, by omega⟩
            rw [hm]
            clear hm hj
            have hmk := fun W => run_make_row' (P := Try.prog) 26 2 (.int .i64 0) 8 Try.underlying26 int64_parts rfl .i64 .i64 m (by omega) (by omega) W
            go_wp2_with fail
            go_meet
            exact ⟨A6, hours_zero _ m _ (by omega) hm2, by omega, H6.below (Below.alloc (Below.refl _ _) (Nat.le_refl _) _), hB6.alloc hB6.size _⟩
          · have n1 : (y == 1) = false := by simpa using e1
            have n0 : (y == 0) = false := by simpa using e0
            go_wp2_with fail
            go_meet
            exact ⟨A5, hU5.hours (by omega), by omega, H5, hB5⟩
      case rest =>
        clear hU5 H5 hB5
        obtain ⟨A6, ⟨aP, nP, cP, P, rfl, hO, hd⟩, a6', H6, hB6⟩ := hcut
        have g6 := H6.lt
        go_wp2_with fail
        refine (spec_among g A6 wc.heap.size 0 7 7 (fun j => ([0, 5, 20, 40, 1000, 1001, -1] : List Int).getD j 0) _ (H6.below (Below.alloc (Below.refl _ _) (Nat.le_refl _) _)) (by omega) (fun j hj => by
          rcases (show j = 0 ∨ j = 1 ∨ j = 2 ∨ j = 3 ∨ j = 4 ∨ j = 5 ∨ j = 6 by omega) with rfl | rfl | rfl | rfl | rfl | rfl | rfl
          all_goals go_cell) (by simp) (by omega) (by omega) (by omega)).mono ?_
        rintro e w7 ⟨jx, A7, rfl, hjx, A7a, A7b, H7, K7⟩
        have hB7 := (hB6.alloc hB6.size (Obj.cells #[.int .i64 0, .int .i64 5, .int .i64 20, .int .i64 40, .int .i64 1000, .int .i64 1001, .int .i64 (-1)] 2)).trans (K7.below (by omega) (by have := hB6.size; simp; omega))
        have hO7 : OwnIn B1 w7.heap.size w7 aP nP (fun j => .int .i64 (P j)) := ((hO.below (Below.alloc (Below.refl _ _) (Nat.le_refl _) (Obj.cells #[.int .i64 0, .int .i64 5, .int .i64 20, .int .i64 40, .int .i64 1000, .int .i64 1001, .int .i64 (-1)] 2))).keep K7 (by omega)).mono (Nat.le_refl _) (by have := K7.size; simp at this; omega)
        generalize ([0, 5, 20, 40, 1000, 1001, -1] : List Int).getD jx 0 = zA7 at *
        clear hB6 hO H6 K7
        have gw7 := H7.lt
        go_wp2_with fail
        refine (spec_among g A7 w7.heap.size 0 7 7 (fun j => ([1, 4, 8, 20, 1000, 1001, 0] : List Int).getD j 0) _ (H7.below (Below.alloc (Below.refl _ _) (Nat.le_refl _) _)) (by omega) (fun j hj => by
          rcases (show j = 0 ∨ j = 1 ∨ j = 2 ∨ j = 3 ∨ j = 4 ∨ j = 5 ∨ j = 6 by omega) with rfl | rfl | rfl | rfl | rfl | rfl | rfl
          all_goals go_cell) (by simp) (by omega) (by omega) (by omega)).mono ?_
        rintro e w8 ⟨jx, A8, rfl, hjx, A8a, A8b, H8, K8⟩
        have hB8 := (hB7.alloc hB7.size (Obj.cells #[.int .i64 1, .int .i64 4, .int .i64 8, .int .i64 20, .int .i64 1000, .int .i64 1001, .int .i64 0] 2)).trans (K8.below (by omega) (by have := hB7.size; simp; omega))
        have hO8 : OwnIn B1 w8.heap.size w8 aP nP (fun j => .int .i64 (P j)) := ((hO7.below (Below.alloc (Below.refl _ _) (Nat.le_refl _) (Obj.cells #[.int .i64 1, .int .i64 4, .int .i64 8, .int .i64 20, .int .i64 1000, .int .i64 1001, .int .i64 0] 2))).keep K8 (by omega)).mono (Nat.le_refl _) (by have := K8.size; simp at this; omega)
        generalize ([1, 4, 8, 20, 1000, 1001, 0] : List Int).getD jx 0 = zA8 at *
        clear hB7 hO7 H7 K8
        have gw8 := H8.lt
        go_wp2_with fail
        go_returns
        exact ⟨aP, nP, cP, P, zA7, zA8, rfl, hd, hO8.ints, hB8⟩

set_option maxHeartbeats 4000000 in
theorem spec_DrawGearFor (a : Option Addr) (n c : Nat) (w : World) (h : BytesAt w a n) (hn : n ≤ 1048576) :
    Calls Try.prog 5 #[.slice a n c] w fun e w' => ∃ p k r aF nF cF F s t, e = .returned (.tuple #[.agg #[.int .i64 p, .int .i64 k, .int .i64 r], .slice aF nF cF, .int .i64 s, .int .i64 t]) ∧ nF ≤ 61 ∧ IntsAt w' aF nF F ∧ Below w.heap.size w w' := by
  have H := Lib.hid h
  clear h
  go_enter Try.func5, Try.ntmps5
  have R0 := Row3.made w (.int .i64 0) (.int .i64 0) (.int .i64 0) 25
  have H0 := H.out.below (Below.alloc (Below.refl _ _) (Nat.le_refl _) (Obj.cells #[.int .i64 0, .int .i64 0, .int .i64 0] 25))
  have b0 : Below w.heap.size w (w.alloc (Obj.cells #[.int .i64 0, .int .i64 0, .int .i64 0] 25)) := Below.alloc (Below.refl _ _) (Nat.le_refl _) _
  go_wp2_with fail
  clear H
  generalize w.alloc (Obj.cells #[.int .i64 0, .int .i64 0, .int .i64 0] 25) = w0 at *
  generalize hX : w.heap.size = X at *
  have s0 := R0.lt
  refine (spec_l00From a n c _ H0 hn).mono ?_
  rintro e w1 ⟨g, rfl, hg, HS, hb⟩
  have R1 := R0.below hb
  have b1 := b0.trans (hb.mono (by omega))
  have s1 := R1.lt
  have lg := HS.lt
  have gX : X < g := by omega
  clear R0 b0 hb H0
  go_wp2_with fail
  refine (spec_l10Draw g 0 _ (by omega) HS).mono ?_
  rintro e w2 ⟨p, k, r, A2, rfl, a0, a1, H2, K2⟩
  have R2 := R1.keepm K2 (by omega)
  have b2 := b1.trans (K2.below (by omega) (by omega))
  have t2 := K2.size
  have bA : Below w2.heap.size w2 (w2.alloc (Obj.cells #[.int .i64 p, .int .i64 k, .int .i64 r] 25)) := Below.alloc (Below.refl _ _) (Nat.le_refl _) _
  have R3 := R2.below bA
  have R4 := Row3.made w2 (.int .i64 p) (.int .i64 k) (.int .i64 r) 25
  have H3 := H2.below bA
  have b3 := b2.trans (bA.mono (by omega))
  clear HS K2 R1 b1 R2 b2 H2 bA
  go_upto_region 3 with fail
  generalize w2.alloc (Obj.cells #[.int .i64 p, .int .i64 k, .int .i64 r] 25) = w3 at *
  generalize hD : w2.heap.size = D at *
  have l3 := R4.lt
  have gD : g < D := by omega
  have XD : X < D := by omega
  go_wp2_with fail
  refine (spec_pick g A2 5 _ (H3.below (Below.alloc (Below.refl _ _) (Nat.le_refl _) _)) (by omega) (by omega)).mono ?_
  rintro e w4 ⟨x, A3, rfl, x0, x1, a2, a3, H4, K4⟩
  have x1' := x1 (by omega)
  have hU4 := (AppOf.made (Nat.le_refl w3.heap.size)).keep K4 (by omega)
  have bE : Below w3.heap.size w3 (w3.alloc (Obj.cells #[] 2)) := Below.alloc (Below.refl _ _) (Nat.le_refl _) _
  have R5 := (R3.below bE).keepm K4 (by omega)
  have R6 := (R4.below bE).keepm K4 (by omega)
  have b4 := (b3.trans (bE.mono (by omega))).trans (K4.below (by omega) (by simp; omega))
  have t4 : w3.heap.size ≤ w4.heap.size := by
    have := K4.size
    simp at this
    omega
  clear H3 K4 R3 R4 b3 x1 bE
  generalize hB1 : w3.heap.size = B1 at *
  obtain ⟨N, rfl⟩ : ∃ N : Nat, x = N := ⟨x.toNat, by omega⟩
  go_wp2_with fail
  go_loopw [8, 9, 10] (fun u q i wr => ∃ (k' : Int) (L : List Int) (gr A4 : Int), (L.length : Int) + k' = N ∧ -1 ≤ k' ∧ i = .int .i64 k' ∧ q = .int .i64 gr ∧ 100 ≤ gr ∧ gr ≤ 100 + 1000 * (L.length : Int) ∧ AppOf B1 wr u L ∧ A4 ≤ 40 + 4 * (L.length : Int) ∧ SrcAt wr g A4 ∧ Row3 wr X (.int .i64 0) (.int .i64 0) (.int .i64 0) ∧ Row3 wr D (.int .i64 p) (.int .i64 k) (.int .i64 r) ∧ Below X w wr ∧ B1 ≤ wr.heap.size) (fun _ _ i _ => (intOf i + 1).toNat)
  case atStart => exact ⟨N, [], 100, A3, by simp, by omega, rfl, rfl, by omega, by simp, hU4, by simp; omega, H4, R5, R6, b4, t4⟩
  case round =>
    clear hU4 H4 R5 R6 b4 t4
    obtain ⟨k', L, gr, A4, hk, k1, rfl, rfl, g1, g2, hU, b1, H4, R5, R6, hB, tr⟩ := hrel
    by_cases hlt : 0 ≤ k'
    · go_wp2_with fail
      refine (spec_pick g A4 20 _ H4 (by omega) (by omega)).mono ?_
      rintro e w5 ⟨z, A5, rfl, z0, z1, a4, a5, H5, K5⟩
      have z1' := z1 (by omega)
      have hU5 := hU.keep K5 (by omega)
      have R7 := R5.keepm K5 (by omega)
      have R8 := R6.keepm K5 (by omega)
      have hB5 := hB.trans (K5.below (by omega) (by omega))
      have s5 := K5.size
      clear hU H4 K5 hB z1 R5 R6
      go_wp2_with (at_builtin; refine app_int _ rfl _ _ rfl B1 _ _ rfl (hU5.alloc _) w5.heap.size 1 (gr + (50 + 50 * z)) rfl (by go_cell) (by omega) (by simp; omega) ?_; intro v' w6 hU6 hw6)
      go_roundw
      case rel => exact ⟨k' - 1, L ++ [gr + (50 + 50 * z)], gr + (50 + 50 * z), A5, by simp; omega, by omega, by go_num, rfl, by omega, by simp; omega, hU6, by simp; omega, (H5.below (Below.alloc (Below.refl _ _) (Nat.le_refl _) _)).up hw6 (by omega), (R7.below (Below.alloc (Below.refl _ _) (Nat.le_refl _) _)).lowm hw6 (by omega), (R8.below (Below.alloc (Below.refl _ _) (Nat.le_refl _) _)).lowm hw6 (by omega), (hB5.alloc (by omega) _).trans (hw6.mono (by omega)), by have := hw6.size; simp at this; omega⟩
      case measure => simp [intOf]; omega
    · obtain rfl : k' = -1 := by omega
      go_wp2_with fail
      refine (spec_pick g A4 18 _ H4 (by omega) (by omega)).mono ?_
      rintro e w5 ⟨y, A5, rfl, y0, y1, a4, a5, H5, K5⟩
      have y1' := y1 (by omega)
      have hU5 := hU.keep K5 (by omega)
      have R7 := R5.keepm K5 (by omega)
      have R8 := R6.keepm K5 (by omega)
      have hB5 := hB.trans (K5.below (by omega) (by omega))
      have s5 := K5.size
      have g5 := H5.lt
      clear hU H4 K5 hB y1 R5 R6
      go_upto_block 2 with fail
      go_cut [8] (fun u W => ∃ (L' : List Int) (A6 : Int), AppOf B1 W u L' ∧ L'.length ≤ 61 ∧ A6 ≤ 100 ∧ SrcAt W g A6 ∧ Row3 W X (.int .i64 0) (.int .i64 0) (.int .i64 0) ∧ Row3 W D (.int .i64 p) (.int .i64 k) (.int .i64 r) ∧ Below X w W ∧ B1 ≤ W.heap.size)
      case first =>
        by_cases e0 : y = 0
        · subst e0
          go_wp2_with fail
          refine (spec_among g A5 w5.heap.size 0 4 4 (fun j => ([99, 100, 10000, 10001] : List Int).getD j 0) _ (H5.below (Below.alloc (Below.refl _ _) (Nat.le_refl _) _)) (by omega) (fun j hj => by
            rcases (show j = 0 ∨ j = 1 ∨ j = 2 ∨ j = 3 by omega) with rfl | rfl | rfl | rfl
            all_goals go_cell) (by simp) (by omega) (by omega) (by omega)).mono ?_
          rintro e w6 ⟨j, A6, rfl, hj, a6, a7, H6, K6⟩
          have bE : Below w5.heap.size w5 (w5.alloc (Obj.cells #[.int .i64 99, .int .i64 100, .int .i64 10000, .int .i64 10001] 2)) := Below.alloc (Below.refl _ _) (Nat.le_refl _) _
          have hU6 := (hU5.below bE).keep K6 (by omega)
          have R9 := (R7.below bE).keepm K6 (by omega)
          have Ra := (R8.below bE).keepm K6 (by omega)
          have hB6 := (hB5.trans (bE.mono (by omega))).trans (K6.below (by omega) (by simp; omega))
          have s6 := K6.size
          simp at s6
          generalize ([99, 100, 10000, 10001] : List Int).getD j 0 = z at *
          clear hU5 H5 K6 hB5 R7 R8
          go_wp2_with (at_builtin; refine app_int _ rfl _ _ rfl B1 _ _ rfl (hU6.alloc _) w6.heap.size 1 z rfl (by go_cell) (by omega) (by simp; omega) ?_; intro v' w7 hU7 hw7)
          go_meet
          exact ⟨_, A6, hU7, by simp; omega, by omega, (H6.below (Below.alloc (Below.refl _ _) (Nat.le_refl _) _)).up hw7 (by omega), (R9.below (Below.alloc (Below.refl _ _) (Nat.le_refl _) _)).lowm hw7 (by omega), (Ra.below (Below.alloc (Below.refl _ _) (Nat.le_refl _) _)).lowm hw7 (by omega), (hB6.alloc (by omega) _).trans (hw7.mono (by omega)), by have := hw7.size; simp at this; omega⟩
        · by_cases e1 : y = 1
          · subst e1
            go_wp2_with fail
            refine (spec_among g A5 w5.heap.size 0 3 3 (fun j => ([0, 6, 7] : List Int).getD j 0) _ (H5.below (Below.alloc (Below.refl _ _) (Nat.le_refl _) _)) (by omega) (fun j hj => by
              rcases (show j = 0 ∨ j = 1 ∨ j = 2 by omega) with rfl | rfl | rfl
              all_goals go_cell) (by simp) (by omega) (by omega) (by omega)).mono ?_
            rintro e w6 ⟨j, A6, rfl, hj, a6, a7, H6, K6⟩
            have bE : Below w5.heap.size w5 (w5.alloc (Obj.cells #[.int .i64 0, .int .i64 6, .int .i64 7] 2)) := Below.alloc (Below.refl _ _) (Nat.le_refl _) _
            have hU6 := (hU5.below bE).keep K6 (by omega)
            have R9 := (R7.below bE).keepm K6 (by omega)
            have Ra := (R8.below bE).keepm K6 (by omega)
            have hB6 := (hB5.trans (bE.mono (by omega))).trans (K6.below (by omega) (by simp; omega))
            have s6 := K6.size
            simp at s6
            obtain ⟨m, hm, hm2⟩ : ∃ m : Nat, ([0, 6, 7] : List Int).getD j 0 = (m : Int) ∧ m ≤ 7 := by
              rcases (show j = 0 ∨ j = 1 ∨ j = 2 by omega) with rfl | rfl | rfl
              · exact ⟨0, rfl, by omega⟩
              · exact ⟨6, rfl, by omega⟩
              · exact ⟨7, rfl, by omega⟩
            rw [hm]
            clear hm hj hU5 H5 K6 hB5 R7 R8 hU6 bE
            have bE : Below w6.heap.size w6 (w6.alloc (Obj.cells #[] 2)) := Below.alloc (Below.refl _ _) (Nat.le_refl _) _
            have hU7 := AppOf.made (show B1 ≤ w6.heap.size by omega)
            have R7 := R9.below bE
            have R8 := Ra.below bE
            have hB5 := hB6.trans (bE.mono (by omega))
            have H7 := H6.below bE
            have s7 : B1 ≤ (w6.alloc (Obj.cells #[] 2)).heap.size := by simp; omega
            go_wp2_with fail
            clear R9 Ra hB6 H6 bE
            go_loopw [8, 12] (fun u i wr => ∃ (q : Nat) (L : List Int), q ≤ m ∧ L.length = q ∧ i = .int .i64 (q : Int) ∧ AppOf B1 wr u L ∧ SrcAt wr g A6 ∧ Row3 wr X (.int .i64 0) (.int .i64 0) (.int .i64 0) ∧ Row3 wr D (.int .i64 p) (.int .i64 k) (.int .i64 r) ∧ Below X w wr ∧ B1 ≤ wr.heap.size) (fun _ i _ => m - (intOf i).toNat)
            case atStart => exact ⟨0, [], by omega, rfl, rfl, hU7, H7, R7, R8, hB5, s7⟩
            case round =>
              clear hU7 H7 R7 R8 hB5 s7
              obtain ⟨q, L, hq, hl, rfl, hU7, H7, R7, R8, hB5, s7⟩ := hrel
              by_cases hlt2 : q < m
              · have q0 : (q : Int) < (m : Int) := by omega
                go_wp2_with (at_builtin; refine app_int _ rfl _ _ rfl B1 _ _ rfl (hU7.alloc _) wr.heap.size 1 (500 + 500 * (q : Int)) rfl (by go_cell) (by omega) (by simp; omega) ?_; intro v' w8 hU8 hw8)
                go_roundw
                case rel => exact ⟨q + 1, _, by omega, by simp; omega, by go_num, hU8, (H7.below (Below.alloc (Below.refl _ _) (Nat.le_refl _) _)).up hw8 (by omega), (R7.below (Below.alloc (Below.refl _ _) (Nat.le_refl _) _)).lowm hw8 (by omega), (R8.below (Below.alloc (Below.refl _ _) (Nat.le_refl _) _)).lowm hw8 (by omega), (hB5.alloc (by omega) _).trans (hw8.mono (by omega)), by have := hw8.size; simp at this; omega⟩
                case measure => simp [intOf]; omega
              · obtain rfl : q = m := by omega
                go_wp2_with fail
                go_meet
                exact ⟨L, A6, hU7, by omega, by omega, H7, R7, R8, hB5, s7⟩
          · have n1 : (y == 1) = false := by simpa using e1
            have n0 : (y == 0) = false := by simpa using e0
            go_wp2_with fail
            go_meet
            exact ⟨L, A5, hU5, by omega, by omega, H5, R7, R8, hB5, by omega⟩
      case rest =>
        clear hU5 H5 hB5 R7 R8 s5
        obtain ⟨L', A6, hU6, l6, a6', H6, R9, Ra, hB6, s6⟩ := hcut
        obtain ⟨aF, cF, rfl, _, _, hO⟩ := hU6.outc
        have n61 := l6
        generalize hnF : L'.length = nF at *
        clear hnF
        obtain ⟨F, hF⟩ : ∃ F : Nat → Int, F = fun j => L'.getD j 0 := ⟨_, rfl⟩
        have hO1 : OwnIn B1 wc.heap.size wc aF nF (fun j => .int .i64 (F j)) := by rw [hF]; exact hO
        clear hO hF hU6
        go_wp2_with fail
        refine (spec_l10DrawForce g A6 _ (by omega) H6).mono ?_
        rintro e w5 ⟨sp, A7, rfl, a8, a9, H7, K7⟩
        have R3 := R9.keepm K7 (by omega)
        have R4 := Ra.keepm K7 (by omega)
        have b3 := hB6.trans (K7.below (by omega) (by omega))
        have hO3 := (hO1.keep K7 (by omega)).mono (Nat.le_refl _) K7.size
        have H3 := H7
        have l6 := b3.size
        clear R9 Ra hB6 hO1 H6 H7 K7
        generalize w5 = w3 at *
        go_upto_region 21 with fail
        have c0 := R4.c0
        have c1 := R4.c1
        have c2 := R4.c2
        refine wp_region_any (by kernel_rfl) ?_
        change wpAny _ _ _ _ _ _ _ (World.drew _)
        (refine wpAny_take (i := 3) (v := ?_) rfl (by kernel_rfl) (by kernel_rfl) (by kernel_rfl) (fun _ _ _ h => h) (Or.inl ⟨by rfl, ?_⟩) ?_; rotate_left; (intro w; go_simp; try (with_reducible rfl)))
        (refine wpAny_take (i := 1) (v := ?_) rfl (by kernel_rfl) (by kernel_rfl) (by kernel_rfl) (fun _ _ _ h => h) (Or.inl ⟨by rfl, ?_⟩) ?_; rotate_left; (intro w; go_simp; try (with_reducible rfl)))
        (refine wpAny_take (i := 2) (v := ?_) rfl (by kernel_rfl) (by kernel_rfl) (by kernel_rfl) (fun _ _ _ h => h) (Or.inl ⟨by rfl, ?_⟩) ?_; rotate_left; (intro w; go_simp; try (with_reducible rfl)))
        refine wpAny_ready (rs := [0, 4]) (by kernel_rfl) (by simp) ?_
        refine AllReady.cons rfl (fun K hK => ?_) (AllReady.cons rfl (fun K hK => ?_) AllReady.nil)
        · go_simp
          (refine hK _ _ ?_; clear hK K)
          refine wpAny_ready (rs := [4]) (by kernel_rfl) (by simp) ?_
          refine AllReady.cons rfl (fun K hK => ?_) AllReady.nil
          go_simp
          refine (spec_l04DrawSpeed g A7 _ (by omega) H3.drew).mono ?_
          rintro e w4 ⟨v, A5, rfl, a6, a7, H5, K5⟩
          have K6 : Keep g (g + 1) w3 w4 := (Keep.of_below (Below.drew (Below.refl _ _))).trans K5
          have R5 := R3.keepm K6 (by omega)
          have R6 := R4.keepm K6 (by omega)
          have b5 := b3.trans (K6.below (by omega) (by omega))
          have hO5 := (hO3.keep K6 (by omega)).mono (Nat.le_refl _) K6.size
          have hO6 := hO5.keep (keep_row3 w4 X (.int .i64 p) (.int .i64 k) (.int .i64 r)) (by omega)
          clear hO3 hO5 R3 R4 b3 K5 K6 H3 c0 c1 c2
          refine hK _ _ ?_
          clear hK K
          have f0 := R5.f0
          have f1 := R5.f1
          have f2 := R5.f2
          have e0 := R5.c0
          have e1 := R5.c1
          have e2 := R5.c2
          have b6 := below_set3 (x' := .int .i64 p) (y' := .int .i64 k) (z' := .int .i64 r) b5 (Nat.le_refl X)
          refine wpAny_tail 5 (by kernel_rfl) (by kernel_rfl) ?_
          simp only [List.drop_succ_cons, List.drop_zero]
          go_wp2_with fail
          refine bodyPost_ret (by simp [results, Try.results5, go_sem, *]; try rfl) rfl ?_
          exact ⟨p, k, r, aF, nF, cF, F, sp, v, rfl, n61, hO6.ints, by rw [hX]; exact b6⟩
        · go_simp
          refine (spec_l04DrawSpeed g A7 _ (by omega) H3.drew).mono ?_
          rintro e w4 ⟨v, A5, rfl, a6, a7, H5, K5⟩
          have K6 : Keep g (g + 1) w3 w4 := (Keep.of_below (Below.drew (Below.refl _ _))).trans K5
          have R5 := R3.keepm K6 (by omega)
          have R6 := R4.keepm K6 (by omega)
          have b5 := b3.trans (K6.below (by omega) (by omega))
          have hO5 := (hO3.keep K6 (by omega)).mono (Nat.le_refl _) K6.size
          have hO6 := hO5.keep (keep_row3 w4 X (.int .i64 p) (.int .i64 k) (.int .i64 r)) (by omega)
          clear hO3 hO5 R3 R4 b3 K5 K6 H3 c0 c1 c2
          refine hK _ _ ?_
          clear hK K
          refine wpAny_ready (rs := [0]) (by kernel_rfl) (by simp) ?_
          refine AllReady.cons rfl (fun K hK => ?_) AllReady.nil
          have c0 := R6.c0
          have c1 := R6.c1
          have c2 := R6.c2
          go_simp
          (refine hK _ _ ?_; clear hK K)
          clear c0 c1 c2
          have f0 := R5.f0
          have f1 := R5.f1
          have f2 := R5.f2
          have e0 := R5.c0
          have e1 := R5.c1
          have e2 := R5.c2
          have b6 := below_set3 (x' := .int .i64 p) (y' := .int .i64 k) (z' := .int .i64 r) b5 (Nat.le_refl X)
          refine wpAny_tail 5 (by kernel_rfl) (by kernel_rfl) ?_
          simp only [List.drop_succ_cons, List.drop_zero]
          go_wp2_with fail
          refine bodyPost_ret (by simp [results, Try.results5, go_sem, *]; try rfl) rfl ?_
          exact ⟨p, k, r, aF, nF, cF, F, sp, v, rfl, n61, hO6.ints, by rw [hX]; exact b6⟩

end Go.Proofs.Ytejhngkbkcalaaa
