/-
  Contracts: the length of a track, the time of a ride, where a car is after some seconds.
-/
import Derived.Test.YtcnnhklbilcbaaaDk
import Derived.Test.YtcnnhklbilcbaaaKP3
namespace Go.Proofs.Ytcnnhklbilcbaaa
open Go.RowKit
set_option linter.unusedVariables false
set_option linter.unusedSimpArgs false


theorem spec_TrackLength_ok (a : Option Addr) (n c : Nat) (L G : Nat → Int) (lf lu : Int) (w : World) (hP : PassAt w a n L G) (hok : trackOk L G n lf lu = true) :
    Calls Try.prog 8 #[.agg #[.slice a n c, .int .i64 lf, .int .i64 lu]] w fun e w' => e = .returned (.tuple #[.int .i64 (lenT L n), .int .i64 0]) ∧ Below w.heap.size w w' := by
  obtain ⟨k1, k2, k3, k4⟩ := track_at hok
  have ko := fun W h0 h1 h2 h => spec_l03Ok w.heap.size 0 a n c L G lf lu W h0 h1 h2 h (by omega)
  rw [hok] at ko
  have kl := fun W h0 h => spec_l03Length w.heap.size 0 a n c L G W h0 h k2 (fun j hj => by have := secs_at k3 hj; omega)
  generalize lenT L n = len at *
  clear hok k3
  go_enter Try.func8, Try.ntmps8
  have R := Row3.made w (.slice a n c) (.int .i64 lf) (.int .i64 lu) 26
  have bA : Below w.heap.size w (w.alloc (Obj.cells #[.slice a n c, .int .i64 lf, .int .i64 lu] 26)) := Below.alloc (Below.refl _ _) (Nat.le_refl _) _
  have hP1 := hP.below bA
  go_wp2_with fail
  generalize w.alloc (Obj.cells #[.slice a n c, .int .i64 lf, .int .i64 lu] 26) = w0 at *
  refine (ko _ R.c0 R.c1 R.c2 hP1).mono ?_
  rintro e w1 ⟨rfl, hb⟩
  have R1 := R.below hb
  have hP2 := hP1.below hb
  have hB := bA.trans (hb.mono (by have := R.lt; omega))
  go_wp2_with fail
  refine (kl _ R1.c0 hP2).mono ?_
  rintro e w2 ⟨rfl, rfl⟩
  go_wp2_with fail
  go_returns
  exact ⟨rfl, hB⟩

set_option maxHeartbeats 1000000 in
theorem spec_l09Time (g : Nat) (a r c y n : Int) (w : World) (hp : profOk a r c y = true) (hn0 : 0 ≤ n) (hn1 : n ≤ 3000000) (hR : Row4 w g (.int .i64 a) (.int .i64 r) (.int .i64 c) (.int .i64 y)) :
    Calls Try.prog 38 #[.pointer (some ⟨g, 0, none⟩), .int .i64 n] w fun e w' => e = .returned (.int .i64 (timeN a r c y n : Int)) ∧ Below w.heap.size w w' := by
  have HBD := Lib.hid (fun k => ride_bd hp hn0 k)
  have HGE := Lib.hid (fun (k : Nat) (h1 : k ≤ timeN a r c y n) (h2 : n ≤ placeK a r c y n k) => time_ge hp hn0 h1 h2)
  have HAT := Lib.hid (time_at hp hn0)
  have HLE := Lib.hid (time_le (a := a) (r := r) (c := c) (y := y) (n := n))
  go_enter Try.func38, Try.ntmps38
  go_wp2
  go_loopw [1, 5, 6] (fun wy sp ct wr => ∃ k : Nat, k ≤ timeN a r c y n ∧ wy = .int .i64 (n - placeK a r c y n k) ∧ sp = .int .i64 (speedK a r c y n k) ∧ ct = .int .i64 (k : Int) ∧ Row4 wr g (.int .i64 a) (.int .i64 r) (.int .i64 c) (.int .i64 y) ∧ Below w.heap.size w wr) (fun _ _ ct _ => timeN a r c y n - (intOf ct).toNat)
  case atStart => exact ⟨0, by omega, by rw [place_0]; simp, by rw [speed_0], rfl, hR, Below.refl _ _⟩
  case round => as_aux_lemma =>
    clear hR
    obtain ⟨k, hk, rfl, rfl, rfl, hR, hB⟩ := hrel
    obtain ⟨⟨h1, h2⟩, ⟨h3, h4⟩, h5⟩ := HBD.out k
    have hle := HLE.out
    have hge := fun h => HGE.out k hk h
    have hpl := place_succ (a := a) (r := r) (c := c) (y := y) (n := n) k
    have hsp := speed_succ (a := a) (r := r) (c := c) (y := y) (n := n) k
    have hat := HAT.out
    have h6 := (HBD.out (k + 1)).1
    have h7 := (HBD.out (k + 1)).2.1
    by_cases hlt : placeK a r c y n k < n
    · have hk2 : k < timeN a r c y n := by
        rcases Nat.lt_or_ge k (timeN a r c y n) with h | h
        · exact h
        · obtain rfl : k = timeN a r c y n := by omega
          omega
      have kn := fun W c0 c1 c2 c3 => spec_l09Next g 0 a r c y (speedK a r c y n k) (n - placeK a r c y n k) W hp h3 h4 (by omega) (by omega) c0 c1 c2 c3
      rw [← hsp] at kn
      have HP := Lib.hid hpl
      clear hpl hsp hge hat
      generalize placeK a r c y n k = P at *
      generalize speedK a r c y n k = s at *
      generalize hP1 : placeK a r c y n (k + 1) = P1 at *
      generalize hS1 : speedK a r c y n (k + 1) = s1 at *
      generalize timeN a r c y n = tn at *
      have g0 : 0 < n - P := by omega
      go_wp2_with fail
      refine (kn _ hR.c0 hR.c1 hR.c2 hR.c3).mono ?_
      rintro e w1 ⟨rfl, hb⟩
      have hR1 := hR.below hb
      have hB1 := hB.trans (hb.mono hB.size)
      have HQ := Lib.hid (show n - P - s1 = n - P1 by have := HP.out; omega)
      have bnd : 0 ≤ s1 ∧ s1 ≤ 15000 := h7
      have HP1 := Lib.hid hP1
      have HS1 := Lib.hid hS1
      clear hP1 hS1 hR hB kn HGE HAT HLE
      go_wp2
      go_roundw
      case rel => exact ⟨k + 1, by omega, by rw [HP1.out, ← HQ.out], by rw [HS1.out], by go_num, hR1, hB1⟩
      case measure => simp [intOf]; omega
    · have ht := hge (by omega)
      have g0 : n - placeK a r c y n k = 0 := by omega
      rw [g0]
      have HT := Lib.hid ht
      clear hge hat hpl hsp g0 ht
      go_wp2
      refine bodyPost_ret (by simp [results, Try.results38, go_sem, *]; try rfl) rfl ?_
      exact ⟨by rw [HT.out], hB⟩

set_option maxHeartbeats 1000000 in
theorem spec_l09After (g : Nat) (a r c y n : Int) (m : Nat) (w : World) (hp : profOk a r c y = true) (hn0 : 0 ≤ n) (hn1 : n ≤ 3000000) (hm : m ≤ timeN a r c y n) (hR : Row4 w g (.int .i64 a) (.int .i64 r) (.int .i64 c) (.int .i64 y)) :
    Calls Try.prog 40 #[.pointer (some ⟨g, 0, none⟩), .int .i64 n, .int .i64 (m : Int)] w fun e w' => e = .returned (.tuple #[.int .i64 (placeK a r c y n m), .int .i64 (speedK a r c y n m)]) ∧ Below w.heap.size w w' := by
  have HBD := Lib.hid (fun k => ride_bd hp hn0 k)
  have HLT := Lib.hid (fun (k : Nat) (h : k < m) => time_lt (a := a) (r := r) (c := c) (y := y) (n := n) (k := k) (by omega))
  have hm1 : m ≤ 3000001 := by
    have := time_le (a := a) (r := r) (c := c) (y := y) (n := n)
    omega
  clear hm
  go_enter Try.func40, Try.ntmps40
  go_wp2
  go_loopw [8, 9, 10] (fun sp pl ct wr => ∃ k : Nat, k ≤ m ∧ pl = .int .i64 (placeK a r c y n k) ∧ sp = .int .i64 (speedK a r c y n k) ∧ ct = .int .i64 (k : Int) ∧ Row4 wr g (.int .i64 a) (.int .i64 r) (.int .i64 c) (.int .i64 y) ∧ Below w.heap.size w wr) (fun _ _ ct _ => m - (intOf ct).toNat)
  case atStart => exact ⟨0, by omega, by rw [place_0], by rw [speed_0], rfl, hR, Below.refl _ _⟩
  case round => as_aux_lemma =>
    clear hR
    obtain ⟨k, hk, rfl, rfl, rfl, hR, hB⟩ := hrel
    obtain ⟨⟨h1, h2⟩, ⟨h3, h4⟩, h5⟩ := HBD.out k
    have hpl := place_succ (a := a) (r := r) (c := c) (y := y) (n := n) k
    have hsp := speed_succ (a := a) (r := r) (c := c) (y := y) (n := n) k
    have h6 := (HBD.out (k + 1)).1
    have h7 := (HBD.out (k + 1)).2.1
    by_cases hlt : k < m
    · have hlt2 : (k : Int) < (m : Int) := by omega
      have hpn := HLT.out k hlt
      have kn := fun W c0 c1 c2 c3 => spec_l09Next g 0 a r c y (speedK a r c y n k) (n - placeK a r c y n k) W hp h3 h4 (by omega) (by omega) c0 c1 c2 c3
      rw [← hsp] at kn
      have HP := Lib.hid hpl
      clear hpl hsp
      generalize placeK a r c y n k = P at *
      generalize speedK a r c y n k = s at *
      generalize hP1 : placeK a r c y n (k + 1) = P1 at *
      generalize hS1 : speedK a r c y n (k + 1) = s1 at *
      have g0 : ¬ P = n := by omega
      go_wp2_with fail
      refine (kn _ hR.c0 hR.c1 hR.c2 hR.c3).mono ?_
      rintro e w1 ⟨rfl, hb⟩
      have hR1 := hR.below hb
      have hB1 := hB.trans (hb.mono hB.size)
      have bnd : 0 ≤ s1 ∧ s1 ≤ 15000 := h7
      have HP1 := Lib.hid hP1
      have HS1 := Lib.hid hS1
      have e1 : P + s1 = P1 := HP.out.symm
      clear hP1 hS1 hR hB kn HLT HBD
      go_wp2
      go_roundw
      case rel => exact ⟨k + 1, by omega, by rw [HP1.out], by rw [HS1.out], by go_num, hR1, hB1⟩
      case measure => simp [intOf]; omega
    · obtain rfl : k = m := by omega
      clear hpl hsp h6 h7
      go_wp2
      go_returns
      exact ⟨rfl, hB⟩

theorem spec_l09Ask_ok (g : Nat) (a r c y n : Int) (w : World) (hp : profOk a r c y = true) (hn0 : 0 ≤ n) (hn1 : n ≤ 3000000) (hR : Row4 w g (.int .i64 a) (.int .i64 r) (.int .i64 c) (.int .i64 y)) :
    Calls Try.prog 37 #[.pointer (some ⟨g, 0, none⟩), .int .i64 n] w fun e w' => e = .returned (.int .i64 0) ∧ Below w.heap.size w w' := by
  have ko := fun W c0 c1 c2 c3 => spec_l09Ok g 0 a r c y W c0 c1 c2 c3
  rw [hp] at ko
  have ki : ∀ W, Calls Try.prog 54 #[.int .i64 n] W fun e w' => e = .returned (.bool true) ∧ W = w' := fun W => by
    have k2 := fun W => spec_l00In n 0 3000000 W
    rw [inB_true.2 ⟨hn0, hn1⟩] at k2
    go_enter Try.func54, Try.ntmps54
    go_wp2_with fail
    refine (k2 _).mono ?_
    rintro e w1 ⟨rfl, rfl⟩
    go_wp2
    go_returns
    exact ⟨rfl, rfl⟩
  go_enter Try.func37, Try.ntmps37
  go_wp2_with fail
  refine (ko _ hR.c0 hR.c1 hR.c2 hR.c3).mono ?_
  rintro e w1 ⟨rfl, hb⟩
  go_wp2_with fail
  refine (ki _).mono ?_
  rintro e w2 ⟨rfl, rfl⟩
  go_wp2_with fail
  go_returns
  exact ⟨rfl, hb⟩

theorem spec_RideTime_ok (a r c y n : Int) (w : World) (hp : profOk a r c y = true) (hn0 : 0 ≤ n) (hn1 : n ≤ 3000000) :
    Calls Try.prog 15 #[.agg #[.int .i64 a, .int .i64 r, .int .i64 c, .int .i64 y], .int .i64 n] w fun e w' => e = .returned (.tuple #[.int .i64 (timeN a r c y n : Int), .int .i64 0]) ∧ Below w.heap.size w w' := by
  have ka := fun W h => spec_l09Ask_ok w.heap.size a r c y n W hp hn0 hn1 h
  have kt := fun W h => spec_l09Time w.heap.size a r c y n W hp hn0 hn1 h
  generalize timeN a r c y n = tn at *
  go_enter Try.func15, Try.ntmps15
  have R := Row4.made w (.int .i64 a) (.int .i64 r) (.int .i64 c) (.int .i64 y) 32
  have bA : Below w.heap.size w (w.alloc (Obj.cells #[.int .i64 a, .int .i64 r, .int .i64 c, .int .i64 y] 32)) := Below.alloc (Below.refl _ _) (Nat.le_refl _) _
  go_wp2_with fail
  generalize w.alloc (Obj.cells #[.int .i64 a, .int .i64 r, .int .i64 c, .int .i64 y] 32) = w0 at *
  refine (ka _ R).mono ?_
  rintro e w1 ⟨rfl, hb⟩
  have R1 := R.below hb
  have hB := bA.trans (hb.mono (by have := R.lt; omega))
  go_wp2_with fail
  refine (kt _ R1).mono ?_
  rintro e w2 ⟨rfl, hb2⟩
  have hB2 := hB.trans (hb2.mono hB.size)
  go_wp2_with fail
  go_returns
  exact ⟨rfl, hB2⟩

theorem spec_PlaceAfter_ok (a r c y n : Int) (m : Nat) (w : World) (hp : profOk a r c y = true) (hn0 : 0 ≤ n) (hn1 : n ≤ 3000000) (hm : m ≤ timeN a r c y n) (hm2 : m ≤ 3000000) :
    Calls Try.prog 16 #[.agg #[.int .i64 a, .int .i64 r, .int .i64 c, .int .i64 y], .int .i64 n, .int .i64 (m : Int)] w fun e w' => e = .returned (.tuple #[.int .i64 (placeK a r c y n m), .int .i64 (speedK a r c y n m), .int .i64 0]) ∧ Below w.heap.size w w' := by
  have ka := fun W h => spec_l09Ask_ok w.heap.size a r c y n W hp hn0 hn1 h
  have kt := fun W h => spec_l09After w.heap.size a r c y n m W hp hn0 hn1 hm h
  have ki := fun W => spec_l00In (m : Int) 0 3000000 W
  rw [inB_true.2 (by omega)] at ki
  generalize placeK a r c y n m = P at *
  generalize speedK a r c y n m = s at *
  clear hm
  go_enter Try.func16, Try.ntmps16
  have R := Row4.made w (.int .i64 a) (.int .i64 r) (.int .i64 c) (.int .i64 y) 32
  have bA : Below w.heap.size w (w.alloc (Obj.cells #[.int .i64 a, .int .i64 r, .int .i64 c, .int .i64 y] 32)) := Below.alloc (Below.refl _ _) (Nat.le_refl _) _
  go_wp2_with fail
  generalize w.alloc (Obj.cells #[.int .i64 a, .int .i64 r, .int .i64 c, .int .i64 y] 32) = w0 at *
  refine (ka _ R).mono ?_
  rintro e w1 ⟨rfl, hb⟩
  have R1 := R.below hb
  have hB := bA.trans (hb.mono (by have := R.lt; omega))
  go_wp2_with fail
  refine (ki _).mono ?_
  rintro e w2 ⟨rfl, rfl⟩
  go_wp2_with fail
  refine (kt _ R1).mono ?_
  rintro e w2 ⟨rfl, hb2⟩
  have hB2 := hB.trans (hb2.mono hB.size)
  go_wp2_with fail
  go_returns
  exact ⟨rfl, hB2⟩

end Go.Proofs.Ytcnnhklbilcbaaa
