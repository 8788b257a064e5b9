/-
  Contracts: a state of the controller drawn; whether a list has a number.
-/
import Derived.Test.YtccejaneammplaaBr
import Derived.Test.YtccejaneammplaaKM
import Derived.Test.YtccejaneammplaaKN
import Derived.Test.YtccejaneammplaaKB
import Derived.Test.YtccejaneammplaaPy
import Derived.Deep.DeepCutAuto
import Derived.IntWalk
namespace Go.Proofs.Ytccejaneammplaa
open Go.RowKit
set_option linter.unusedVariables false
set_option linter.unusedSimpArgs false

theorem step_ok {x : St} {ev : Int} (h : x.ok = true) : (step x ev).ok = true := by
  unfold step
  split
  · exact after_ok h
  · exact h
theorem StAt.other {w : World} {g b j : Nat} {x : St} {u : Value} (h : StAt w g x) (hb : b ≠ g) : StAt (w.setCell ⟨b, j, none⟩ u) g x :=
  h.keep ((Keep.refl b (b + 1) w).set (Nat.le_refl _) (Nat.lt_succ_self _)) (by omega)
theorem StAt.set2 {w : World} {g : Nat} {m : Int} {o a b e : Bool} (h : StAt w g ⟨m, o, a, b, e⟩) (u : Bool) : StAt (w.setCell ⟨g, 2, none⟩ (.bool u)) g ⟨m, o, u, b, e⟩ :=
  (OwnIn.set h (show 2 < 5 by decide) _).cong (fun q hq => by
    rcases (show q = 0 ∨ q = 1 ∨ q = 2 ∨ q = 3 ∨ q = 4 by omega) with rfl | rfl | rfl | rfl | rfl <;> rfl)
theorem StAt.set3 {w : World} {g : Nat} {m : Int} {o a b e : Bool} (h : StAt w g ⟨m, o, a, b, e⟩) (u : Bool) : StAt (w.setCell ⟨g, 3, none⟩ (.bool u)) g ⟨m, o, a, u, e⟩ :=
  (OwnIn.set h (show 3 < 5 by decide) _).cong (fun q hq => by
    rcases (show q = 0 ∨ q = 1 ∨ q = 2 ∨ q = 3 ∨ q = 4 by omega) with rfl | rfl | rfl | rfl | rfl <;> rfl)
theorem StAt.set4 {w : World} {g : Nat} {m : Int} {o a b e : Bool} (h : StAt w g ⟨m, o, a, b, e⟩) (u : Bool) : StAt (w.setCell ⟨g, 4, none⟩ (.bool u)) g ⟨m, o, a, b, u⟩ :=
  (OwnIn.set h (show 4 < 5 by decide) _).cong (fun q hq => by
    rcases (show q = 0 ∨ q = 1 ∨ q = 2 ∨ q = 3 ∨ q = 4 by omega) with rfl | rfl | rfl | rfl | rfl <;> rfl)
theorem Keep.putFresh {lo hi g : Nat} {w w' : World} {u0 u1 u2 u3 u4 : Value} (h : Keep lo hi w w') (hB : w.heap.size ≤ g) : Keep lo hi w (((((w'.setCell ⟨g, 0, none⟩ u0).setCell ⟨g, 1, none⟩ u1).setCell ⟨g, 2, none⟩ u2).setCell ⟨g, 3, none⟩ u3).setCell ⟨g, 4, none⟩ u4) :=
  (((((h.setFresh (B := 0) hB).setFresh (B := 0) hB).setFresh (B := 0) hB).setFresh (B := 0) hB).setFresh (B := 0) hB)
theorem StAt.putOther {w : World} {g b : Nat} {x : St} {u0 u1 u2 u3 u4 : Value} (h : StAt w g x) (hb : b ≠ g) : StAt (((((w.setCell ⟨b, 0, none⟩ u0).setCell ⟨b, 1, none⟩ u1).setCell ⟨b, 2, none⟩ u2).setCell ⟨b, 3, none⟩ u3).setCell ⟨b, 4, none⟩ u4) g x :=
  (((((h.other hb).other hb).other hb).other hb).other hb)
theorem SrcAt.putUp {w : World} {g b : Nat} {A : Int} {u0 u1 u2 u3 u4 : Value} (h : SrcAt w g A) (hb : g < b) : SrcAt (((((w.setCell ⟨b, 0, none⟩ u0).setCell ⟨b, 1, none⟩ u1).setCell ⟨b, 2, none⟩ u2).setCell ⟨b, 3, none⟩ u3).setCell ⟨b, 4, none⟩ u4) g A :=
  (((((h.setUp hb).setUp hb).setUp hb).setUp hb).setUp hb)

theorem spec_l13First (w : World) : Calls Try.prog 32 #[] w fun e' w' => e' = .returned (.agg #[.int .i64 0, .bool false, .bool false, .bool false, .bool true]) ∧ Below w.heap.size w w' := by
  go_enter Try.func32, Try.ntmps32
  go_wp2
  go_returns
  exact ⟨rfl, by go_grown⟩

theorem spec_l13Next_some (m : Int) (o a b e : Bool) (ev : Int) (w : World) (h1 : 1 ≤ ev) (h2 : ev ≤ 9) (h3 : 0 ≤ m) (h4 : m ≤ 4) : Calls Try.prog 28 #[.agg #[.int .i64 m, .bool o, .bool a, .bool b, .bool e], .int .i64 ev] w
    fun e' w' => ∃ m1 o1 a1 b1 e1 al, e' = .returned (.tuple #[.agg #[.int .i64 m1, .bool o1, .bool a1, .bool b1, .bool e1], .bool al]) ∧ 0 ≤ m1 ∧ m1 ≤ 4 ∧ Below w.heap.size w w' :=
  (spec_l13Next m o a b e ev w h1 h2).mono fun e' w' ⟨he, hb⟩ => by
    have hk : (step ⟨m, o, a, b, e⟩ ev).ok = true := step_ok (inB_true.2 ⟨h3, h4⟩)
    generalize step ⟨m, o, a, b, e⟩ ev = y at *
    obtain ⟨y0, y1, y2, y3, y4⟩ := y
    obtain ⟨k1, k2⟩ := inB_true.1 hk
    exact ⟨y0, y1, y2, y3, y4, _, he, k1, k2, hb⟩

set_option maxHeartbeats 1000000 in
theorem laws_r8Has (a : Option Addr) (n c : Nat) (Z : Nat → Int) (ev : Int) (w : World) (hz : IntsAt w a n Z) (hn : n ≤ 1048576) :
    Calls Try.prog 9 #[.slice a n c, .int .i64 ev] w fun e w' => e = .returned (.bool (any (fun j => Z j == ev) n)) ∧ w = w' := by
  rw [← idx_ge]
  have hq : ∀ j, (fun j => Z j == ev) j = (Z j == ev) := fun _ => rfl
  generalize (fun j => Z j == ev) = q at *
  go_enter Try.func9, Try.ntmps9
  go_wp2
  go_loop [5] (fun i => ∃ k : Nat, k ≤ n ∧ i = .int .i64 k ∧ fst q k = k) (fun i => n - (intOf i).toNat)
  case atStart => exact ⟨0, by omega, rfl, rfl⟩
  case round =>
    obtain ⟨k, hk, rfl, hr⟩ := hrel
    by_cases hlt : k < n
    · obtain ⟨b, o, rfl, hb, hc⟩ := hz (by omega)
      have ck := hc k hlt
      have hk1 := hq k
      clear hq hc
      cases hqk : q k
      · have H := Lib.hid (fst_miss hr hqk)
        rw [hqk] at hk1
        have hne : ¬ Z k = ev := by
          intro hh; rw [hh] at hk1; simp at hk1
        clear hr hqk hk1
        generalize Z k = z at *
        go_wp2
        go_round
        case rel => exact ⟨k + 1, by omega, by go_num, H.out⟩
        case measure => simp [intOf]; omega
      · have hfin : idx q n = k := by unfold idx; rw [fst_hit hr hqk hlt, if_pos hlt]
        have hdec : decide (0 ≤ idx q n) = true := by rw [hfin]; exact decide_eq_true (by omega)
        have H := Lib.hid hdec
        rw [hqk] at hk1
        have he : Z k = ev := by simpa using hk1.symm
        clear hr hqk hk1 hfin hdec
        go_wp2
        go_ret
        exact ⟨by rw [H.out]; rfl, rfl⟩
    · obtain rfl : k = n := by omega
      have hfin : idx q k = -1 := by unfold idx; rw [hr, if_neg (by omega)]
      have hdec : decide (0 ≤ idx q k) = false := by rw [hfin]; rfl
      have H := Lib.hid hdec
      clear hr hfin hdec
      go_wp2
      go_ret
      exact ⟨by rw [H.out]; rfl, rfl⟩

set_option maxHeartbeats 16000000 in
theorem spec_l13Draw (g : Nat) (w : World) (h : SrcAt w g 0) :
    Calls Try.prog 19 #[.pointer (some ⟨g, 0, none⟩)] w fun e' w' => ∃ m o a b e, e' = .returned (.agg #[.int .i64 m, .bool o, .bool a, .bool b, .bool e]) ∧ 0 ≤ m ∧ m ≤ 4 ∧ Keep g (g + 1) w w' := by
  have hg := h.lt
  have H := Lib.hid h
  clear h
  go_enter Try.func19, Try.ntmps19
  go_wp2_with fail
  have hR := StAt.made w 25 0 false false false false
  refine (spec_one g 0 2 _ (H.out.below (by go_grown)) (by omega) (by omega)).mono ?_
  rintro e w1 ⟨v, A1, rfl, a0, a1, H1, K1⟩
  have hR1 := hR.keep K1 (by omega)
  have KK1 : Keep g (g + 1) w w1 := (Keep.of_below (by go_grown)).trans K1
  have s1 : w.heap.size < w1.heap.size := hR1.lt
  clear K1 hR
  generalize hG : w.heap.size = G at *
  cases v
  · go_wp2_with fail
    refine (spec_pick g A1 5 _ H1 (by omega) (by omega)).mono ?_
    rintro e w2 ⟨m, A2, rfl, m0, m1, b0, b1, H2, K2⟩
    have hR2 := hR1.keep K2 (by omega)
    have KK2 := KK1.trans K2
    have m2 := m1 (by omega)
    clear H1 hR1 KK1 K2 m1 s1
    go_wp2_with fail
    refine (spec_one g A2 2 _ H2 (by omega) (by omega)).mono ?_
    rintro e w3 ⟨o, A3, rfl, b2, b3, H3, K3⟩
    have hR3 := hR2.keep K3 (by omega)
    have KK3 := KK2.trans K3
    have s3 : G < w3.heap.size := hR3.lt
    clear H2 hR2 KK2 K3
    go_wp2_with fail
    have hX := StAt.made w3 25 m o false false false
    have hR4 := hR3.below (w' := w3.alloc (Obj.cells #[.int .i64 m, .bool o, .bool false, .bool false, .bool false] 25)) (by go_grown)
    have H4 := H3.below (w' := w3.alloc (Obj.cells #[.int .i64 m, .bool o, .bool false, .bool false, .bool false] 25)) (by go_grown)
    have KK4 := KK3.alloc (o := Obj.cells #[.int .i64 m, .bool o, .bool false, .bool false, .bool false] 25)
    clear hR3 H3 KK3
    have hX3 : G < w3.heap.size := s3
    generalize w3.alloc (Obj.cells #[.int .i64 m, .bool o, .bool false, .bool false, .bool false] 25) = w4 at *
    generalize hE : w3.heap.size = E at *
    refine (spec_one g A3 2 _ H4 (by omega) (by omega)).mono ?_
    rintro e w5 ⟨a, A5, rfl, b4, b5, H5, K5⟩
    have hX5 := hX.keep K5 (by omega)
    have hR5 := hR4.keep K5 (by omega)
    have KK5 := KK4.trans K5
    have f2 := hX5.fr (show 2 < 5 by decide)
    have p2 := hX5.c2
    dsimp only at p2
    clear hX hR4 H4 KK4 K5
    go_wp2_with fail
    have hX6 := hX5.set2 a
    have hR6 := hR5.other (b := E) (j := 2) (u := .bool a) (by omega)
    have H6 := H5.setUp (b := E) (j := 2) (u := .bool a) (by omega)
    have KK6 := KK5.setFresh (g := E) (j := 2) (u := .bool a) (B := 0) (by omega)
    clear hX5 hR5 H5 KK5 f2 p2
    generalize w5.setCell ⟨E, 2, none⟩ (.bool a) = w6 at *
    refine (spec_one g A5 2 _ H6 (by omega) (by omega)).mono ?_
    rintro e w7 ⟨b, A7, rfl, b6, b7, H7, K7⟩
    have hX7 := hX6.keep K7 (by omega)
    have hR7 := hR6.keep K7 (by omega)
    have KK7 := KK6.trans K7
    have f2 := hX7.fr (show 3 < 5 by decide)
    have p2 := hX7.c3
    dsimp only at p2
    clear hX6 hR6 H6 KK6 K7
    go_wp2_with fail
    have hX8 := hX7.set3 b
    have hR8 := hR7.other (b := E) (j := 3) (u := .bool b) (by omega)
    have H8 := H7.setUp (b := E) (j := 3) (u := .bool b) (by omega)
    have KK8 := KK7.setFresh (g := E) (j := 3) (u := .bool b) (B := 0) (by omega)
    clear hX7 hR7 H7 KK7 f2 p2
    generalize w7.setCell ⟨E, 3, none⟩ (.bool b) = w8 at *
    refine (spec_one g A7 2 _ H8 (by omega) (by omega)).mono ?_
    rintro e w9 ⟨e4, A9, rfl, b8, b9, H9, K9⟩
    have hX9 := hX8.keep K9 (by omega)
    have hR9 := hR8.keep K9 (by omega)
    have KK9 := KK8.trans K9
    have f2 := hX9.fr (show 4 < 5 by decide)
    have p2 := hX9.c4
    have p0 := hX9.c0
    have p1 := hX9.c1
    have p3 := hX9.c2
    have p4 := hX9.c3
    have r0 := hR9.c0
    have r1 := hR9.c1
    have r2 := hR9.c2
    have r3 := hR9.c3
    have r4 := hR9.c4
    have k0 := hR9.fr (show 0 < 5 by decide)
    have k1 := hR9.fr (show 1 < 5 by decide)
    have k2 := hR9.fr (show 2 < 5 by decide)
    have k3 := hR9.fr (show 3 < 5 by decide)
    have k4 := hR9.fr (show 4 < 5 by decide)
    have hEG : E ≠ G := by omega
    have hGE : G ≠ E := by omega
    dsimp only at p0 p1 p2 p3 p4 r0 r1 r2 r3 r4
    clear hX8 hR8 H8 KK8 K9
    go_wp2
    refine bodyPost_ret (by simp [results, Try.results19, go_sem, *]; try rfl) rfl ?_
    exact ⟨m, o, a, b, e4, rfl, m0, by omega, (KK9.setFresh (B := 0) (by omega)).putFresh (by omega)⟩
  · go_wp2_with fail
    refine (spec_l13First _).mono ?_
    rintro e w2 ⟨rfl, hb⟩
    have hR2 := hR1.below hb
    have H2 := H1.below hb
    have KK2 := KK1.thenBelow hb
    have s2 : G < w2.heap.size := hR2.lt
    clear H1 hR1 KK1 hb s1
    go_wp2_with fail
    have hX := StAt.made w2 25 0 false false false true
    have hR4 := hR2.below (w' := w2.alloc (Obj.cells #[.int .i64 0, .bool false, .bool false, .bool false, .bool true] 25)) (by go_grown)
    have H4 := H2.below (w' := w2.alloc (Obj.cells #[.int .i64 0, .bool false, .bool false, .bool false, .bool true] 25)) (by go_grown)
    have KK4 := KK2.alloc (o := Obj.cells #[.int .i64 0, .bool false, .bool false, .bool false, .bool true] 25)
    clear hR2 H2 KK2
    generalize w2.alloc (Obj.cells #[.int .i64 0, .bool false, .bool false, .bool false, .bool true] 25) = w4 at *
    generalize hE : w2.heap.size = E at *
    refine (spec_pick g A1 12 _ H4 (by omega) (by omega)).mono ?_
    rintro e w5 ⟨v, A5, rfl, v0, v1, b4, b5, H5, K5⟩
    have hX5 := hX.keep K5 (by omega)
    have hR5 := hR4.keep K5 (by omega)
    have KK5 := KK4.trans K5
    have v2 := v1 (by omega)
    obtain ⟨V, rfl⟩ : ∃ V : Nat, v = V := ⟨v.toNat, by omega⟩
    clear hX hR4 H4 KK4 K5 v1 v0
    go_wp2_with fail
    go_loopw [4] (fun i wr => ∃ (k : Nat) (m : Int) (o a b e : Bool) (A : Int), k ≤ 11 ∧ i = .int .i64 (k : Int) ∧ SrcAt wr g A ∧ A ≤ 100 - 4 * k ∧ StAt wr E ⟨m, o, a, b, e⟩ ∧ 0 ≤ m ∧ m ≤ 4 ∧ StAt wr G ⟨0, false, false, false, false⟩ ∧ Keep g (g + 1) w wr) (fun i _ => (intOf i).toNat)
    case atStart => exact ⟨V, 0, false, false, false, true, A5, by omega, rfl, H5, by omega, hX5, by omega, by omega, hR5, KK5⟩
    case round =>
      clear hX5 hR5 KK5 H5
      obtain ⟨k, m, o, a, b, e, A, hk, rfl, HS, hA, hX, m0, m4, hR, KK⟩ := hrel
      have p0 := hX.c0
      have p1 := hX.c1
      have p2 := hX.c2
      have p3 := hX.c3
      have p4 := hX.c4
      dsimp only at p0 p1 p2 p3 p4
      have hEG : E ≠ G := by omega
      have hGE : G ≠ E := by omega
      by_cases hlt : 0 < k
      · have k1 : (0 : Int) < (k : Int) := by omega
        have hXl := hX.lt
        go_upto_region 6 with fail
        go_cut [5, 6] (fun p q W => ∃ (h : Nat) (m' : Int) (o' a' b' e' al : Bool) (A' : Int), p = .pointer (some ⟨h, 0, none⟩) ∧ q = .bool al ∧ h ≠ E ∧ W.cell? ⟨h, 0, none⟩ = some (.int .i64 m') ∧ W.cell? ⟨h, 1, none⟩ = some (.bool o') ∧ W.cell? ⟨h, 2, none⟩ = some (.bool a') ∧ W.cell? ⟨h, 3, none⟩ = some (.bool b') ∧ W.cell? ⟨h, 4, none⟩ = some (.bool e') ∧ 0 ≤ m' ∧ m' ≤ 4 ∧ SrcAt W g A' ∧ A' ≤ A + 2 ∧ StAt W E ⟨m, o, a, b, e⟩ ∧ StAt W G ⟨0, false, false, false, false⟩ ∧ Keep g (g + 1) w W)
        case first =>
          go_region_with (first | (go_at_call 33; (with_reducible refine (spec_pick g A 9 _ (HS.below (by go_grown)) (by omega) (by omega)).mono ?_); rintro e' wp ⟨v, Ap, rfl, z0, z1, y0, y1, Hp, Kp⟩; have z2 := z1 (by omega); have hXp := (hX.below (by go_grown)).keep Kp (by omega); have hRp := (hR.below (by go_grown)).keep Kp (by omega); have KKp := (KK.thenBelow (by go_grown)).trans Kp; have sp : wr.heap.size ≤ wp.heap.size := Nat.le_trans (by simp) Kp.size; (try (have sp' : wr.heap.size < wp.heap.size := Nat.lt_of_lt_of_le (by first | omega | (simp only [World.size_alloc, World.size_drew]; omega)) Kp.size)); have hXl1 := hXp.lt; have hGl1 := hRp.lt; have p0 := hXp.c0; have p1 := hXp.c1; have p2 := hXp.c2; have p3 := hXp.c3; have p4 := hXp.c4; dsimp only at p0 p1 p2 p3 p4; (try (have q0 : wp.cell? ⟨wr.heap.size, 0, none⟩ = some (.int .i64 0) := (Kp.cellk (by first | omega | (simp only [World.size_alloc, World.size_drew]; omega)) (by omega)).trans (by first | (go_cell; done) | fail))); (try (have qf0 : wp.frozen? ⟨wr.heap.size, 0, none⟩ = false := (Kp.frozenk (by first | omega | (simp only [World.size_alloc, World.size_drew]; omega)) (by omega)).trans (by first | (go_simp; done) | fail))); (try (have q1 : wp.cell? ⟨wr.heap.size, 1, none⟩ = some (.bool false) := (Kp.cellk (by first | omega | (simp only [World.size_alloc, World.size_drew]; omega)) (by omega)).trans (by first | (go_cell; done) | fail))); (try (have qf1 : wp.frozen? ⟨wr.heap.size, 1, none⟩ = false := (Kp.frozenk (by first | omega | (simp only [World.size_alloc, World.size_drew]; omega)) (by omega)).trans (by first | (go_simp; done) | fail))); (try (have q2 : wp.cell? ⟨wr.heap.size, 2, none⟩ = some (.bool false) := (Kp.cellk (by first | omega | (simp only [World.size_alloc, World.size_drew]; omega)) (by omega)).trans (by first | (go_cell; done) | fail))); (try (have qf2 : wp.frozen? ⟨wr.heap.size, 2, none⟩ = false := (Kp.frozenk (by first | omega | (simp only [World.size_alloc, World.size_drew]; omega)) (by omega)).trans (by first | (go_simp; done) | fail))); (try (have q3 : wp.cell? ⟨wr.heap.size, 3, none⟩ = some (.bool false) := (Kp.cellk (by first | omega | (simp only [World.size_alloc, World.size_drew]; omega)) (by omega)).trans (by first | (go_cell; done) | fail))); (try (have qf3 : wp.frozen? ⟨wr.heap.size, 3, none⟩ = false := (Kp.frozenk (by first | omega | (simp only [World.size_alloc, World.size_drew]; omega)) (by omega)).trans (by first | (go_simp; done) | fail))); (try (have q4 : wp.cell? ⟨wr.heap.size, 4, none⟩ = some (.bool false) := (Kp.cellk (by first | omega | (simp only [World.size_alloc, World.size_drew]; omega)) (by omega)).trans (by first | (go_cell; done) | fail))); (try (have qf4 : wp.frozen? ⟨wr.heap.size, 4, none⟩ = false := (Kp.frozenk (by first | omega | (simp only [World.size_alloc, World.size_drew]; omega)) (by omega)).trans (by first | (go_simp; done) | fail)))) | (go_at_call 28; (with_reducible refine (spec_l13Next_some m o a b e _ _ (by first | omega | (rw [IntWalk.i64_in _ (by omega)]; omega)) (by first | omega | (rw [IntWalk.i64_in _ (by omega)]; omega)) m0 m4).mono ?_); rintro e' wn ⟨m1, o1, a1', b1', e1', al, rfl, n0, n1, hbn⟩; have hXn := (hXp.below (by go_grown)).below hbn; have hRn := (hRp.below (by go_grown)).below hbn; have KKn := (KKp.thenBelow (by go_grown)).thenBelow hbn; have Hn := (Hp.below (by go_grown)).below hbn; have sn : wp.heap.size ≤ wn.heap.size := Nat.le_trans (by simp) hbn.size; (try (have qn0 : wn.cell? ⟨wr.heap.size, 0, none⟩ = some (.int .i64 0) := (hbn.cell (p := ⟨wr.heap.size, 0, none⟩) (by first | omega | (simp only [World.size_alloc, World.size_drew]; omega))).trans (by first | (go_cell; done) | fail))); (try (have qnf0 : wn.frozen? ⟨wr.heap.size, 0, none⟩ = false := (hbn.frozen (p := ⟨wr.heap.size, 0, none⟩) (by first | omega | (simp only [World.size_alloc, World.size_drew]; omega))).trans (by first | (go_simp; done) | fail))); (try (have qn1 : wn.cell? ⟨wr.heap.size, 1, none⟩ = some (.bool false) := (hbn.cell (p := ⟨wr.heap.size, 1, none⟩) (by first | omega | (simp only [World.size_alloc, World.size_drew]; omega))).trans (by first | (go_cell; done) | fail))); (try (have qnf1 : wn.frozen? ⟨wr.heap.size, 1, none⟩ = false := (hbn.frozen (p := ⟨wr.heap.size, 1, none⟩) (by first | omega | (simp only [World.size_alloc, World.size_drew]; omega))).trans (by first | (go_simp; done) | fail))); (try (have qn2 : wn.cell? ⟨wr.heap.size, 2, none⟩ = some (.bool false) := (hbn.cell (p := ⟨wr.heap.size, 2, none⟩) (by first | omega | (simp only [World.size_alloc, World.size_drew]; omega))).trans (by first | (go_cell; done) | fail))); (try (have qnf2 : wn.frozen? ⟨wr.heap.size, 2, none⟩ = false := (hbn.frozen (p := ⟨wr.heap.size, 2, none⟩) (by first | omega | (simp only [World.size_alloc, World.size_drew]; omega))).trans (by first | (go_simp; done) | fail))); (try (have qn3 : wn.cell? ⟨wr.heap.size, 3, none⟩ = some (.bool false) := (hbn.cell (p := ⟨wr.heap.size, 3, none⟩) (by first | omega | (simp only [World.size_alloc, World.size_drew]; omega))).trans (by first | (go_cell; done) | fail))); (try (have qnf3 : wn.frozen? ⟨wr.heap.size, 3, none⟩ = false := (hbn.frozen (p := ⟨wr.heap.size, 3, none⟩) (by first | omega | (simp only [World.size_alloc, World.size_drew]; omega))).trans (by first | (go_simp; done) | fail))); (try (have qn4 : wn.cell? ⟨wr.heap.size, 4, none⟩ = some (.bool false) := (hbn.cell (p := ⟨wr.heap.size, 4, none⟩) (by first | omega | (simp only [World.size_alloc, World.size_drew]; omega))).trans (by first | (go_cell; done) | fail))); (try (have qnf4 : wn.frozen? ⟨wr.heap.size, 4, none⟩ = false := (hbn.frozen (p := ⟨wr.heap.size, 4, none⟩) (by first | omega | (simp only [World.size_alloc, World.size_drew]; omega))).trans (by first | (go_simp; done) | fail))); (try (have qm0 : wn.cell? ⟨wp.heap.size, 0, none⟩ = some (.int .i64 0) := (hbn.cell (p := ⟨wp.heap.size, 0, none⟩) (by first | omega | (simp only [World.size_alloc, World.size_drew]; omega))).trans (by first | (go_cell; done) | fail))); (try (have qmf0 : wn.frozen? ⟨wp.heap.size, 0, none⟩ = false := (hbn.frozen (p := ⟨wp.heap.size, 0, none⟩) (by first | omega | (simp only [World.size_alloc, World.size_drew]; omega))).trans (by first | (go_simp; done) | fail))); (try (have qm1 : wn.cell? ⟨wp.heap.size, 1, none⟩ = some (.bool false) := (hbn.cell (p := ⟨wp.heap.size, 1, none⟩) (by first | omega | (simp only [World.size_alloc, World.size_drew]; omega))).trans (by first | (go_cell; done) | fail))); (try (have qmf1 : wn.frozen? ⟨wp.heap.size, 1, none⟩ = false := (hbn.frozen (p := ⟨wp.heap.size, 1, none⟩) (by first | omega | (simp only [World.size_alloc, World.size_drew]; omega))).trans (by first | (go_simp; done) | fail))); (try (have qm2 : wn.cell? ⟨wp.heap.size, 2, none⟩ = some (.bool false) := (hbn.cell (p := ⟨wp.heap.size, 2, none⟩) (by first | omega | (simp only [World.size_alloc, World.size_drew]; omega))).trans (by first | (go_cell; done) | fail))); (try (have qmf2 : wn.frozen? ⟨wp.heap.size, 2, none⟩ = false := (hbn.frozen (p := ⟨wp.heap.size, 2, none⟩) (by first | omega | (simp only [World.size_alloc, World.size_drew]; omega))).trans (by first | (go_simp; done) | fail))); (try (have qm3 : wn.cell? ⟨wp.heap.size, 3, none⟩ = some (.bool false) := (hbn.cell (p := ⟨wp.heap.size, 3, none⟩) (by first | omega | (simp only [World.size_alloc, World.size_drew]; omega))).trans (by first | (go_cell; done) | fail))); (try (have qmf3 : wn.frozen? ⟨wp.heap.size, 3, none⟩ = false := (hbn.frozen (p := ⟨wp.heap.size, 3, none⟩) (by first | omega | (simp only [World.size_alloc, World.size_drew]; omega))).trans (by first | (go_simp; done) | fail))); (try (have qm4 : wn.cell? ⟨wp.heap.size, 4, none⟩ = some (.bool false) := (hbn.cell (p := ⟨wp.heap.size, 4, none⟩) (by first | omega | (simp only [World.size_alloc, World.size_drew]; omega))).trans (by first | (go_cell; done) | fail))); (try (have qmf4 : wn.frozen? ⟨wp.heap.size, 4, none⟩ = false := (hbn.frozen (p := ⟨wp.heap.size, 4, none⟩) (by first | omega | (simp only [World.size_alloc, World.size_drew]; omega))).trans (by first | (go_simp; done) | fail)))))
          all_goals
            go_wp2_with fail
            go_meet
            refine ⟨_, m1, o1, a1', b1', e1', al, Ap, rfl, rfl, ?_, ?_, ?_, ?_, ?_, ?_, n0, n1, ?_, by omega, ?_, ?_, ?_⟩
            · omega
            · first | (with_reducible refine cell_off (cell_off (cell_off (cell_off (cell_same (x := .int .i64 0) ?_) (by decide)) (by decide)) (by decide)) (by decide); go_simp; done) | (go_simp; done) | (go_cell; done)
            · first | (with_reducible refine cell_off (cell_off (cell_off (cell_same (x := .bool false) (cell_off ?_ (by decide))) (by decide)) (by decide)) (by decide); go_simp; done) | (go_simp; done) | (go_cell; done)
            · first | (with_reducible refine cell_off (cell_off (cell_same (x := .bool false) (cell_off (cell_off ?_ (by decide)) (by decide))) (by decide)) (by decide); go_simp; done) | (go_simp; done) | (go_cell; done)
            · first | (with_reducible refine cell_off (cell_same (x := .bool false) (cell_off (cell_off (cell_off ?_ (by decide)) (by decide)) (by decide))) (by decide); go_simp; done) | (go_simp; done) | (go_cell; done)
            · first | (with_reducible refine cell_same (x := .bool false) (cell_off (cell_off (cell_off (cell_off ?_ (by decide)) (by decide)) (by decide)) (by decide)); go_simp; done) | (go_simp; done) | (go_cell; done)
            · first | (with_reducible exact Hn.putUp (by omega)) | exact Hn.below (by go_grown)
            · first | (with_reducible exact hXn.putOther (by omega)) | exact hXn.below (by go_grown)
            · first | (with_reducible exact hRn.putOther (by omega)) | exact hRn.below (by go_grown)
            · first | (with_reducible exact KKn.putFresh (by omega)) | exact KKn.thenBelow (by go_grown)
        case rest =>
          obtain ⟨h, m', o', a', b', e', al, A', rfl, rfl, hE', t0, t1, t2, t3, t4, n0, n1, H9, hA', hX9, hR9, KK9⟩ := hcut
          have x0 := hX9.c0
          have x1 := hX9.c1
          have x2 := hX9.c2
          have x3 := hX9.c3
          have x4 := hX9.c4
          have f0 := hX9.fr (show 0 < 5 by decide)
          have f1 := hX9.fr (show 1 < 5 by decide)
          have f2 := hX9.fr (show 2 < 5 by decide)
          have f3 := hX9.fr (show 3 < 5 by decide)
          have f4 := hX9.fr (show 4 < 5 by decide)
          dsimp only at x0 x1 x2 x3 x4
          clear p0 p1 p2 p3 p4 hX hR HS KK hXl
          cases al
          · go_wp2
            go_roundw
            case rel => exact ⟨k - 1, m, o, a, b, e, A', by omega, by congr 1; omega, H9, by omega, hX9, m0, m4, hR9, KK9⟩
            case measure => simp [intOf]; omega
          · go_wp2
            go_roundw
            case rel => exact ⟨k - 1, m', o', a', b', e', A', by omega, by congr 1; omega, H9.putUp (by omega), by omega, hX9.put m' o' a' b' e', n0, n1, hR9.putOther (by omega), KK9.putFresh (by omega)⟩
            case measure => simp [intOf]; omega
      · obtain rfl : k = 0 := by omega
        have r0 := hR.c0
        have r1 := hR.c1
        have r2 := hR.c2
        have r3 := hR.c3
        have r4 := hR.c4
        have k0 := hR.fr (show 0 < 5 by decide)
        have k1 := hR.fr (show 1 < 5 by decide)
        have k2 := hR.fr (show 2 < 5 by decide)
        have k3 := hR.fr (show 3 < 5 by decide)
        have k4 := hR.fr (show 4 < 5 by decide)
        dsimp only at r0 r1 r2 r3 r4
        go_wp2
        refine bodyPost_ret (by simp [results, Try.results19, go_sem, *]; try rfl) rfl ?_
        exact ⟨m, o, a, b, e, rfl, m0, m4, KK.putFresh (by omega)⟩

theorem spec_R8Control (a : Option Addr) (n c : Nat) (w : World) (h : BytesAt w a n) (hn : n ≤ 1048576) :
    Calls Try.prog 5 #[.slice a n c] w fun e' w' => ∃ m o a b e, e' = .returned (.agg #[.int .i64 m, .bool o, .bool a, .bool b, .bool e]) ∧ 0 ≤ m ∧ m ≤ 4 ∧ Below w.heap.size w w' := by
  have H := Lib.hid h
  clear h
  go_enter Try.func5, Try.ntmps5
  go_wp2_with fail
  have hR := StAt.made w 25 0 false false false false
  have hB0 : Below w.heap.size w (w.alloc (Obj.cells #[.int .i64 0, .bool false, .bool false, .bool false, .bool false] 25)) := by go_grown
  refine (spec_l00From a n c _ (H.out.below (by go_grown)) hn).mono ?_
  rintro e w1 ⟨g, rfl, hg, HS, hb⟩
  have hR1 := hR.below hb
  have hg2 : w.heap.size < g := by simp at hg; omega
  have hB1 : Below w.heap.size w w1 := hB0.trans (hb.mono (by simp))
  have HS2 := Lib.hid HS
  clear hb HS hg hR hB0
  go_wp2_with fail
  refine (spec_l13Draw g _ HS2.out).mono ?_
  rintro e w2 ⟨m, o, a1, b, e4, rfl, m0, m1, K⟩
  have hR2 := hR1.keep K (by omega)
  have hB2 : Below w.heap.size w w2 := hB1.trans (K.below (by omega) hB1.size)
  have r0 := hR2.c0
  have r1 := hR2.c1
  have r2 := hR2.c2
  have r3 := hR2.c3
  have r4 := hR2.c4
  have k0 := hR2.fr (show 0 < 5 by decide)
  have k1 := hR2.fr (show 1 < 5 by decide)
  have k2 := hR2.fr (show 2 < 5 by decide)
  have k3 := hR2.fr (show 3 < 5 by decide)
  have k4 := hR2.fr (show 4 < 5 by decide)
  dsimp only at r0 r1 r2 r3 r4
  clear hR1 K
  go_wp2_with fail
  refine bodyPost_ret (by simp [results, Try.results5, go_sem, *]; try rfl) rfl ?_
  exact ⟨m, o, a1, b, e4, rfl, m0, m1, hB2.trans ((keep_put w2 w.heap.size _ _ _ _ _).below (Nat.le_refl _) hB2.size)⟩

end Go.Proofs.Ytccejaneammplaa
