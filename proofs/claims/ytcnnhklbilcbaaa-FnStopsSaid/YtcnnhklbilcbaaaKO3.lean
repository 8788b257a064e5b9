/-
  Contracts: the first unsafe second of a ride.
-/
import Derived.Test.YtcnnhklbilcbaaaPri
import Derived.Test.YtcnnhklbilcbaaaKN3
import Derived.Deep.DeepCutAuto
namespace Go.Proofs.Ytcnnhklbilcbaaa
open Go.RowKit
set_option linter.unusedVariables false
set_option linter.unusedSimpArgs false


set_option maxHeartbeats 2000000 in
theorem impl_FirstUnsafe_1 (tb bb db yb : Nat) (A : Option Addr) (n c : Nat) (L G : Nat → Int) (lf lu d f : Int) (down fo : Bool) (p s k : Int) (w0 w : World) (hC : RideCtx tb bb db yb A n c L G lf lu d f down w0) (hS : RideSt yb w0 w k fo)
    (h1 : trackOk L G n lf lu = true) (h2 : validBrake d f = true) (hp0 : 0 ≤ p) (hp1 : p ≤ lenT L n) (h7 : 0 ≤ s) (h8 : s ≤ 15000) (hk0 : 0 ≤ k) (hk1 : k ≤ 1000000000) :
    Calls Try.prog 36 #[.int .i64 p, .int .i64 s, .pointer (some ⟨yb + 1, 0, none⟩), .pointer (some ⟨db, 0, none⟩), .pointer (some ⟨yb, 0, none⟩), .pointer (some ⟨tb, 0, none⟩), .pointer (some ⟨bb, 0, none⟩), .pointer (some ⟨yb + 2, 0, none⟩)] w
      fun e w' => e = .returned (.bool (!badB L G n d f p s down)) ∧ RideSt yb w0 w' (k + 1) (badB L G n d f p s down) ∧ Keep (yb + 1) (yb + 3) w w' := by
  obtain ⟨n1, n12, hno, hlen⟩ := track_at h1
  have hT : 0 ≤ lenT L n := by omega
  have kI := fun W h => impl_stopsInTime A n c L G lf lu d f (xV (lenT L n) p down) s down W h h1 h2 (by unfold xV; cases down <;> simp <;> omega) (by unfold xV; cases down <;> simp <;> omega) h7 h8
  have hS1 := hS.tick (k + 1)
  have kk : Keep (yb + 1) (yb + 3) w (w.setCell ⟨yb + 1, 0, none⟩ (.int .i64 (k + 1))) := (Keep.refl _ _ _).set (by omega) (by omega)
  have hls := hC.ls
  unfold badB
  generalize inTimeB L G n d f (xV (lenT L n) p down) s down = R at *
  have hC0 := hC.keep hS.keep
  obtain ⟨t0, t1, t2, b0, b1, d0, y0, lt, lb, ld, _, hP⟩ := hC0
  obtain ⟨s0, sf, f0, ff, kp⟩ := hS
  clear h1 h2 hno
  by_cases hlt : p < lenT L n
  · rw [decide_eq_true hlt, Bool.true_and]
    cases down
    all_goals
      simp only [xV, Bool.false_eq_true, if_false, if_true] at kI
      clear t0 t1 t2 b0 b1 hP f0 ff
      go_enter Try.func36, Try.ntmps36
      go_upto_region 2 with fail
      generalize w.setCell ⟨yb + 1, 0, none⟩ (Value.int .i64 (k + 1)) = w1 at *
      have hC1 := hC.keep hS1.keep
      obtain ⟨t0, t1, t2, b0, b1, d0, y0, _, _, _, hls1, hP⟩ := hC1
      have hS1' := hS1
      obtain ⟨s0, sf, f0, ff, kp⟩ := hS1
      go_wp2_with (go_at_call 33; (with_reducible refine (kI _ hP.pass).mono ?_); rintro e w2 ⟨rfl, hb⟩; have hS2 := hS1'.below hb; have f2 := hS2.f0; have ff2 := hS2.ff; have kk2 := kk.thenBelow hb)
      go_returns
      exact ⟨by rw [Bool.not_not]; rfl, hS2.mark _, kk2.set (by omega) (by omega)⟩
  · rw [decide_eq_false hlt, Bool.false_and]
    cases down
    all_goals
      clear t0 t1 t2 b0 b1 hP f0 ff
      go_enter Try.func36, Try.ntmps36
      go_upto_region 2 with fail
      generalize w.setCell ⟨yb + 1, 0, none⟩ (Value.int .i64 (k + 1)) = w1 at *
      have hC1 := hC.keep hS1.keep
      obtain ⟨t0, t1, t2, b0, b1, d0, y0, _, _, _, hls1, hP⟩ := hC1
      have hS1' := hS1
      obtain ⟨s0, sf, f0, ff, kp⟩ := hS1
      go_wp2
      go_returns
      exact ⟨rfl, hS1'.mark _, kk.set (by omega) (by omega)⟩

set_option maxHeartbeats 2000000 in
theorem impl_ride_FirstUnsafe (tb bb db yb : Nat) (A : Option Addr) (n c : Nat) (L G : Nat → Int) (lf lu d f : Int) (down : Bool) (pa pr pc py : Int) (w : World) (hC : RideCtx tb bb db yb A n c L G lf lu d f down w) (hS : RideSt yb w w 0 false)
    (h1 : trackOk L G n lf lu = true) (h2 : validBrake d f = true) (h3 : profOk pa pr pc py = true) :
    Calls Try.prog 35 #[.agg #[.int .i64 pa, .int .i64 pr, .int .i64 pc, .int .i64 py], .int .i64 (lenT L n), .func (.func 36) #[] #[.pointer (some ⟨yb + 1, 0, none⟩), .pointer (some ⟨db, 0, none⟩), .pointer (some ⟨yb, 0, none⟩), .pointer (some ⟨tb, 0, none⟩), .pointer (some ⟨bb, 0, none⟩), .pointer (some ⟨yb + 2, 0, none⟩)]] w
      fun e w' => e = .returned (.tuple #[]) ∧ RideSt yb w w' (if firstN L G n d f pa pr pc py down < timeN pa pr pc py (lenT L n) then (firstN L G n d f pa pr pc py down : Int) + 1 else timeN pa pr pc py (lenT L n)) (decide (firstN L G n d f pa pr pc py down < timeN pa pr pc py (lenT L n))) := by
  obtain ⟨n1, n12, hno, hlen⟩ := track_at h1
  have hT : 0 ≤ lenT L n := (lenT_le (fun j hj => ⟨(secs_at hno hj).1, (secs_at hno hj).2.1⟩) n (Nat.le_refl _)).1
  have HR := Lib.hid (ride_bd h3 hT)
  have HK := Lib.hid (fun p s k W hS p0 p1 s0 s1 k0 k1 => impl_FirstUnsafe_1 tb bb db yb A n c L G lf lu d f down false p s k w W hC hS h1 h2 p0 p1 s0 s1 k0 k1)
  have HN := Lib.hid (fun s l W s0 s1 l0 l1 => impl_nextSpeed pa pr pc py s l W h3 s0 s1 l0 l1)
  have HH := Lib.hid (fun k hn hk h => first_hit (L := L) (G := G) (n := n) (d := d) (f := f) (a := pa) (r := pr) (c := pc) (y := py) (down := down) (k := k) hn hk h)
  have HZ := Lib.hid (first_none (L := L) (G := G) (n := n) (d := d) (f := f) (a := pa) (r := pr) (c := pc) (y := py) (down := down))
  have HA := Lib.hid (time_at h3 hT)
  have HL := Lib.hid (fun k h => time_lt (a := pa) (r := pr) (c := pc) (y := py) (n := lenT L n) (k := k) h)
  have HM := time_le (a := pa) (r := pr) (c := pc) (y := py) (n := lenT L n)
  have HF := Lib.hid (first_le (L := L) (G := G) (n := n) (d := d) (f := f) (a := pa) (r := pr) (c := pc) (y := py) (down := down))
  have HB1 := Lib.hid (fun s l hl => next_bd (s := s) (l := l) h3 hl)
  obtain ⟨V, hV⟩ : ∃ V : Int, V = (if firstN L G n d f pa pr pc py down < timeN pa pr pc py (lenT L n) then (firstN L G n d f pa pr pc py down : Int) + 1 else timeN pa pr pc py (lenT L n)) := ⟨_, rfl⟩
  obtain ⟨B, hB⟩ : ∃ B : Bool, B = decide (firstN L G n d f pa pr pc py down < timeN pa pr pc py (lenT L n)) := ⟨_, rfl⟩
  rw [← hV, ← hB]
  have HV := Lib.hid hV
  have HD := Lib.hid hB
  clear h1 h2 h3 hno hV hB
  go_enter Try.func35, Try.ntmps35
  go_upto_region 1 with fail
  have hb0 : Below w.heap.size w (w.alloc (Obj.cells #[.int .i64 pa, .int .i64 pr, .int .i64 pc, .int .i64 py] 32)) := by go_grown
  have x0 := own_new (lo := w.heap.size) (hi := w.heap.size + 1) w #[.int .i64 pa, .int .i64 pr, .int .i64 pc, .int .i64 py] 32 (Nat.le_refl _) (by omega)
  generalize w.alloc (Obj.cells #[.int .i64 pa, .int .i64 pr, .int .i64 pc, .int .i64 py] 32) = w1 at *
  have hS1 := hS.below hb0
  have hls := hC.ls
  have HX := Lib.hid x0
  clear hC hb0 hS x0
  go_wp2
  go_loopw [6, 7] (fun x z wr => ∃ k : Nat, k ≤ timeN pa pr pc py (lenT L n) ∧ x = .int .i64 (placeK pa pr pc py (lenT L n) k) ∧ z = .int .i64 (speedK pa pr pc py (lenT L n) k) ∧ (∀ j, j < k → badK L G n d f pa pr pc py down (j + 1) = false) ∧ RideSt yb w wr k false ∧ OwnIn w.heap.size (w.heap.size + 1) wr (some ⟨w.heap.size, 0, none⟩) 4 (fun q => (#[.int .i64 pa, .int .i64 pr, .int .i64 pc, .int .i64 py] : Array Value)[q]?.getD (.int .i64 0))) (fun x _ _ => (lenT L n - intOf x).toNat)
  case atStart => exact ⟨0, by omega, by rw [place_0], by rw [speed_0], fun j hj => absurd hj (by omega), hS1, HX.out⟩
  case round =>
    clear hS1
    obtain ⟨k, hk, rfl, rfl, hno, hS, x0⟩ := hrel
    have rb := HR.out k
    have rb1 := HR.out (k + 1)
    by_cases hlt : k < timeN pa pr pc py (lenT L n)
    · have hpl := HL.out k hlt
      have kN := fun W => HN.out (speedK pa pr pc py (lenT L n) k) (lenT L n - placeK pa pr pc py (lenT L n) k) W (by omega) (by omega) (by omega) (by omega)
      rw [← speed_succ] at kN
      have kC := fun W hS => HK.out (placeK pa pr pc py (lenT L n) (k + 1)) (speedK pa pr pc py (lenT L n) (k + 1)) k W hS (by omega) (by omega) (by omega) (by omega) (by omega) (by omega)
      rw [show badB L G n d f (placeK pa pr pc py (lenT L n) (k + 1)) (speedK pa pr pc py (lenT L n) (k + 1)) down = badK L G n d f pa pr pc py down (k + 1) from rfl] at kC
      have hps := place_succ (a := pa) (r := pr) (c := pc) (y := py) (n := lenT L n) k
      have hh := HH.out k hno hlt
      have HNo := Lib.hid hno
      have HP1 := Lib.hid hps
      clear hno
      have q0 : wr.cell? ⟨w.heap.size, 0, none⟩ = some (.int .i64 pa) := x0.at (show 0 < 4 by decide)
      have q1 : wr.cell? ⟨w.heap.size, 1, none⟩ = some (.int .i64 pr) := x0.at (show 1 < 4 by decide)
      have q2 : wr.cell? ⟨w.heap.size, 2, none⟩ = some (.int .i64 pc) := x0.at (show 2 < 4 by decide)
      have q3 : wr.cell? ⟨w.heap.size, 3, none⟩ = some (.int .i64 py) := x0.at (show 3 < 4 by decide)
      have hs1 := (HB1.out (speedK pa pr pc py (lenT L n) k) (lenT L n - placeK pa pr pc py (lenT L n) k) (by omega)).2.2.2 (by omega)
      rw [← speed_succ] at hs1
      rw [hps] at kC rb1
      have HP := Lib.hid hps
      clear hps
      cases hb : badK L G n d f pa pr pc py down (k + 1)
      · rw [hb] at kC
        have HB := Lib.hid hb
        clear hb hh
        go_wp2_with (first | (go_at_call 52; (with_reducible refine (kN _).mono ?_); rintro e w2 ⟨rfl, hb⟩; have hS2 := hS.below hb; have x2 := x0.below hb; clear hb) | (go_at_call 36; (with_reducible refine (kC _ hS2).mono ?_); rintro e w3 ⟨rfl, hS3, k3⟩))
        go_roundw
        case rel => exact ⟨k + 1, by omega, by rw [HP.out], rfl, fun j hj => by
          rcases Nat.lt_or_ge j k with h | h
          · exact HNo.out j h
          · rw [show j = k by omega]; exact HB.out, hS3, x2.keep k3 (by omega)⟩
        case measure => simp [intOf]; omega
      · rw [hb] at kC
        have HF1 := Lib.hid (hh hb)
        clear hb hh
        go_wp2_with (first | (go_at_call 52; (with_reducible refine (kN _).mono ?_); rintro e w2 ⟨rfl, hb⟩; have hS2 := hS.below hb; have x2 := x0.below hb; clear hb) | (go_at_call 36; (with_reducible refine (kC _ hS2).mono ?_); rintro e w3 ⟨rfl, hS3, k3⟩))
        go_returns
        refine ⟨rfl, ?_⟩
        rw [HV.out, HD.out, HF1.out, if_pos hlt, decide_eq_true hlt]
        exact hS3
    · obtain rfl : k = timeN pa pr pc py (lenT L n) := by omega
      have HNo := Lib.hid hno
      rw [HA.out]
      go_wp2
      go_returns
      refine ⟨rfl, ?_⟩
      rw [HV.out, HD.out, HZ.out HNo.out, if_neg (by omega), decide_eq_false (by omega)]
      exact hS
theorem PassAt.cells {w : World} {a : Option Addr} {n : Nat} {S T : Nat → Int} (h : PassAt w a n S T) : CellsIn 0 w.heap.size w a (2 * n) (psV S T) := fun hn => by
  obtain ⟨b, o, rfl, hb, hc⟩ := h (by omega)
  refine ⟨b, o, rfl, by omega, hb, hb, fun j hj => ?_⟩
  obtain ⟨c0, c1⟩ := hc (j / 2) (by omega)
  rcases (show j = j / 2 * 2 ∨ j = j / 2 * 2 + 1 by omega) with e | e
  · rw [e, c0, psV_0]
  · rw [e, ← Nat.add_assoc, c1, psV_1]
set_option maxHeartbeats 2000000 in
theorem impl_FirstUnsafe (a : Option Addr) (n c : Nat) (L G : Nat → Int) (lf lu d f pa pr pc py : Int) (down : Bool) (w : World) (hP : PassAt w a n L G) (hn : n ≤ 1048576) :
    Calls Try.prog 14 #[.agg #[.slice a n c, .int .i64 lf, .int .i64 lu], .agg #[.int .i64 d, .int .i64 f], .agg #[.int .i64 pa, .int .i64 pr, .int .i64 pc, .int .i64 py], .bool down] w fun e w' => e = .returned (.tuple #[.int .i64 (firstV L G n lf lu d f pa pr pc py down), .int .i64 (firstC L G n lf lu d f pa pr pc py down)]) ∧ Below w.heap.size w w' := by
  have kt := fun W h => impl_ValidTrack a n c L G lf lu W h hn
  have kb := fun W => impl_ValidBrake d f W
  have kp := fun W => impl_ValidProfile pa pr pc py W
  cases h1 : trackOk L G n lf lu
  · obtain ⟨e1, e2⟩ := first_1 (L := L) (G := G) (n := n) (lf := lf) (lu := lu) (d := d) (f := f) (a := pa) (r := pr) (c := pc) (y := py) (down := down) (by unfold firstOk; rw [h1]; rfl)
    rw [e1, e2]
    rw [h1] at kt
    clear e1 e2 h1
    go_enter Try.func14, Try.ntmps14
    go_wp2_with (first | (go_at_call 26; (with_reducible refine (kt _ (hP.below (by first | exact hB | go_grown))).mono ?_); rintro e w' ⟨rfl, hb⟩; obtain ⟨hc, hf⟩ := bcell hb; have hz : w.heap.size < w'.heap.size := (by have := hb.size; (try simp at this); omega); have hz1 : w.heap.size + 1 < w'.heap.size := (by have := hb.size; (try simp at this); omega); have hz2 : w.heap.size + 1 + 1 < w'.heap.size := (by have := hb.size; (try simp at this); omega); have hz3 : w.heap.size + 1 + 1 + 1 < w'.heap.size := (by have := hb.size; (try simp at this); omega); have hB : Below w.heap.size w w' := Below.trans (by go_grown) (hb.mono (by go_size))))
    go_returns
    exact ⟨rfl, hB⟩
  rw [h1] at kt
  cases h2 : validBrake d f
  · obtain ⟨e1, e2⟩ := first_1 (L := L) (G := G) (n := n) (lf := lf) (lu := lu) (d := d) (f := f) (a := pa) (r := pr) (c := pc) (y := py) (down := down) (by unfold firstOk; rw [h2]; simp)
    rw [e1, e2]
    rw [h2] at kb
    clear e1 e2 h1 h2
    go_enter Try.func14, Try.ntmps14
    go_wp2_with (first | (go_at_call 26; (with_reducible refine (kt _ (hP.below (by first | exact hB | go_grown))).mono ?_); rintro e w' ⟨rfl, hb⟩; obtain ⟨hc, hf⟩ := bcell hb; have hz : w.heap.size < w'.heap.size := (by have := hb.size; (try simp at this); omega); have hz1 : w.heap.size + 1 < w'.heap.size := (by have := hb.size; (try simp at this); omega); have hz2 : w.heap.size + 1 + 1 < w'.heap.size := (by have := hb.size; (try simp at this); omega); have hz3 : w.heap.size + 1 + 1 + 1 < w'.heap.size := (by have := hb.size; (try simp at this); omega); have hB : Below w.heap.size w w' := Below.trans (by go_grown) (hb.mono (by go_size))) | (go_at_call 27; (with_reducible refine (kb _).mono ?_); rintro e w' ⟨rfl, hb⟩; obtain ⟨hc, hf⟩ := bcell hb; have hz : w.heap.size < w'.heap.size := (by have := hb.size; (try simp at this); omega); have hz1 : w.heap.size + 1 < w'.heap.size := (by have := hb.size; (try simp at this); omega); have hz2 : w.heap.size + 1 + 1 < w'.heap.size := (by have := hb.size; (try simp at this); omega); have hz3 : w.heap.size + 1 + 1 + 1 < w'.heap.size := (by have := hb.size; (try simp at this); omega); have hB : Below w.heap.size w w' := Below.trans (by go_grown) (hb.mono (by go_size))))
    go_returns
    exact ⟨rfl, hB⟩
  rw [h2] at kb
  cases h3 : profOk pa pr pc py
  · obtain ⟨e1, e2⟩ := first_1 (L := L) (G := G) (n := n) (lf := lf) (lu := lu) (d := d) (f := f) (a := pa) (r := pr) (c := pc) (y := py) (down := down) (by unfold firstOk; rw [h3]; simp)
    rw [e1, e2]
    rw [h3] at kp
    clear e1 e2 h1 h2 h3
    go_enter Try.func14, Try.ntmps14
    go_wp2_with (first | (go_at_call 26; (with_reducible refine (kt _ (hP.below (by first | exact hB | go_grown))).mono ?_); rintro e w' ⟨rfl, hb⟩; obtain ⟨hc, hf⟩ := bcell hb; have hz : w.heap.size < w'.heap.size := (by have := hb.size; (try simp at this); omega); have hz1 : w.heap.size + 1 < w'.heap.size := (by have := hb.size; (try simp at this); omega); have hz2 : w.heap.size + 1 + 1 < w'.heap.size := (by have := hb.size; (try simp at this); omega); have hz3 : w.heap.size + 1 + 1 + 1 < w'.heap.size := (by have := hb.size; (try simp at this); omega); have hB : Below w.heap.size w w' := Below.trans (by go_grown) (hb.mono (by go_size))) | (go_at_call 27; (with_reducible refine (kb _).mono ?_); rintro e w' ⟨rfl, hb⟩; obtain ⟨hc, hf⟩ := bcell hb; have hz : w.heap.size < w'.heap.size := (by have := hb.size; (try simp at this); omega); have hz1 : w.heap.size + 1 < w'.heap.size := (by have := hb.size; (try simp at this); omega); have hz2 : w.heap.size + 1 + 1 < w'.heap.size := (by have := hb.size; (try simp at this); omega); have hz3 : w.heap.size + 1 + 1 + 1 < w'.heap.size := (by have := hb.size; (try simp at this); omega); have hB : Below w.heap.size w w' := Below.trans (by go_grown) (hb.mono (by go_size))) | (go_at_call 34; (with_reducible refine (kp _).mono ?_); rintro e w' ⟨rfl, hb⟩; obtain ⟨hc, hf⟩ := bcell hb; have hz : w.heap.size < w'.heap.size := (by have := hb.size; (try simp at this); omega); have hz1 : w.heap.size + 1 < w'.heap.size := (by have := hb.size; (try simp at this); omega); have hz2 : w.heap.size + 1 + 1 < w'.heap.size := (by have := hb.size; (try simp at this); omega); have hz3 : w.heap.size + 1 + 1 + 1 < w'.heap.size := (by have := hb.size; (try simp at this); omega); have hB : Below w.heap.size w w' := Below.trans (by go_grown) (hb.mono (by go_size))))
    go_returns
    exact ⟨rfl, hB⟩
  rw [h3] at kp
  obtain ⟨n1, n12, hno, hlen⟩ := track_at h1
  have hL : ∀ j, j < n → 1 ≤ L j ∧ L j ≤ 3000000 := fun j hj => ⟨(secs_at hno hj).1, (secs_at hno hj).2.1⟩
  have kl := fun W h => impl_length a n c L G lf lu W h n12 hL
  have hok : firstOk L G n lf lu d f pa pr pc py = true := by unfold firstOk; rw [h1, h2, h3]; rfl
  have kr := fun tb bb db yb W hC hS => impl_ride_FirstUnsafe tb bb db yb a n c L G lf lu d f down pa pr pc py W hC hS h1 h2 h3
  have E3 := fun h => first_3 (L := L) (G := G) (n := n) (lf := lf) (lu := lu) (d := d) (f := f) (a := pa) (r := pr) (c := pc) (y := py) (down := down) hok h
  have E0 := fun h => first_0 (L := L) (G := G) (n := n) (lf := lf) (lu := lu) (d := d) (f := f) (a := pa) (r := pr) (c := pc) (y := py) (down := down) hok h
  have HP := Lib.hid hP.cells
  generalize firstV L G n lf lu d f pa pr pc py down = V at *
  generalize firstC L G n lf lu d f pa pr pc py down = C at *
  have E3 := Lib.hid E3
  have E0 := Lib.hid E0
  generalize firstN L G n d f pa pr pc py down = K at *
  generalize timeN pa pr pc py (lenT L n) = K1 at *
  clear h1 h2 h3 hok hno hL
  by_cases hK : K < K1
  · obtain ⟨rfl, rfl⟩ := E0.out hK
    simp only [if_pos hK, decide_eq_true hK] at kr
    go_enter Try.func14, Try.ntmps14
    go_upto_region 4 with (first | (go_at_call 26; (with_reducible refine (kt _ (hP.below (by first | exact hB | go_grown))).mono ?_); rintro e w' ⟨rfl, hb⟩; obtain ⟨hc, hf⟩ := bcell hb; have hz : w.heap.size < w'.heap.size := (by have := hb.size; (try simp at this); omega); have hz1 : w.heap.size + 1 < w'.heap.size := (by have := hb.size; (try simp at this); omega); have hz2 : w.heap.size + 1 + 1 < w'.heap.size := (by have := hb.size; (try simp at this); omega); have hz3 : w.heap.size + 1 + 1 + 1 < w'.heap.size := (by have := hb.size; (try simp at this); omega); have hB : Below w.heap.size w w' := Below.trans (by go_grown) (hb.mono (by go_size))) | (go_at_call 27; (with_reducible refine (kb _).mono ?_); rintro e w' ⟨rfl, hb⟩; obtain ⟨hc, hf⟩ := bcell hb; have hz : w.heap.size < w'.heap.size := (by have := hb.size; (try simp at this); omega); have hz1 : w.heap.size + 1 < w'.heap.size := (by have := hb.size; (try simp at this); omega); have hz2 : w.heap.size + 1 + 1 < w'.heap.size := (by have := hb.size; (try simp at this); omega); have hz3 : w.heap.size + 1 + 1 + 1 < w'.heap.size := (by have := hb.size; (try simp at this); omega); have hB : Below w.heap.size w w' := Below.trans (by go_grown) (hb.mono (by go_size))) | (go_at_call 34; (with_reducible refine (kp _).mono ?_); rintro e w' ⟨rfl, hb⟩; obtain ⟨hc, hf⟩ := bcell hb; have hz : w.heap.size < w'.heap.size := (by have := hb.size; (try simp at this); omega); have hz1 : w.heap.size + 1 < w'.heap.size := (by have := hb.size; (try simp at this); omega); have hz2 : w.heap.size + 1 + 1 < w'.heap.size := (by have := hb.size; (try simp at this); omega); have hz3 : w.heap.size + 1 + 1 + 1 < w'.heap.size := (by have := hb.size; (try simp at this); omega); have hB : Below w.heap.size w w' := Below.trans (by go_grown) (hb.mono (by go_size))) | (go_at_call 29; (with_reducible refine (kl _ (hP.below (by first | exact hB | go_grown))).mono ?_); rintro e w' ⟨rfl, hb⟩; obtain ⟨hc, hf⟩ := bcell hb; have hz : w.heap.size < w'.heap.size := (by have := hb.size; (try simp at this); omega); have hz1 : w.heap.size + 1 < w'.heap.size := (by have := hb.size; (try simp at this); omega); have hz2 : w.heap.size + 1 + 1 < w'.heap.size := (by have := hb.size; (try simp at this); omega); have hz3 : w.heap.size + 1 + 1 + 1 < w'.heap.size := (by have := hb.size; (try simp at this); omega); have hB : Below w.heap.size w w' := Below.trans (by go_grown) (hb.mono (by go_size))))
    have hB4 : Below w.heap.size w (((w'.alloc (Obj.cells #[.int .i64 (lenT L n)] 2)).alloc (Obj.cells #[.int .i64 0] 2)).alloc (Obj.cells #[.bool false] 4)) := by go_grown
    have hB44 : Below w'.heap.size w' (((w'.alloc (Obj.cells #[.int .i64 (lenT L n)] 2)).alloc (Obj.cells #[.int .i64 0] 2)).alloc (Obj.cells #[.bool false] 4)) := by go_grown
    have T0 : (((w'.alloc (Obj.cells #[.int .i64 (lenT L n)] 2)).alloc (Obj.cells #[.int .i64 0] 2)).alloc (Obj.cells #[.bool false] 4)).cell? ⟨w.heap.size, 0, none⟩ = some (.slice a n c) := (hB44.cell (p := ⟨w.heap.size, 0, none⟩) hz).trans (by go_cell)
    have T1 : (((w'.alloc (Obj.cells #[.int .i64 (lenT L n)] 2)).alloc (Obj.cells #[.int .i64 0] 2)).alloc (Obj.cells #[.bool false] 4)).cell? ⟨w.heap.size, 1, none⟩ = some (.int .i64 lf) := (hB44.cell (p := ⟨w.heap.size, 1, none⟩) hz).trans (by go_cell)
    have T2 : (((w'.alloc (Obj.cells #[.int .i64 (lenT L n)] 2)).alloc (Obj.cells #[.int .i64 0] 2)).alloc (Obj.cells #[.bool false] 4)).cell? ⟨w.heap.size, 2, none⟩ = some (.int .i64 lu) := (hB44.cell (p := ⟨w.heap.size, 2, none⟩) hz).trans (by go_cell)
    have C1 : RideCtx w.heap.size (w.heap.size + 1) (w.heap.size + 1 + 1 + 1) w'.heap.size a n c L G lf lu d f down (((w'.alloc (Obj.cells #[.int .i64 (lenT L n)] 2)).alloc (Obj.cells #[.int .i64 0] 2)).alloc (Obj.cells #[.bool false] 4)) :=
      ⟨T0, T1, T2, by go_cell, by go_cell, by go_cell, by go_cell, by omega, by omega, by omega, by simp, (HP.out.below hB4).mono (Nat.le_refl _) (by omega)⟩
    have S1 : RideSt w'.heap.size (((w'.alloc (Obj.cells #[.int .i64 (lenT L n)] 2)).alloc (Obj.cells #[.int .i64 0] 2)).alloc (Obj.cells #[.bool false] 4)) (((w'.alloc (Obj.cells #[.int .i64 (lenT L n)] 2)).alloc (Obj.cells #[.int .i64 0] 2)).alloc (Obj.cells #[.bool false] 4)) 0 false := ⟨by go_cell, by go_simp, by go_cell, by go_simp, Keep.refl _ _ _⟩
    have Y1 : (((w'.alloc (Obj.cells #[.int .i64 (lenT L n)] 2)).alloc (Obj.cells #[.int .i64 0] 2)).alloc (Obj.cells #[.bool false] 4)).cell? ⟨w'.heap.size, 0, none⟩ = some (.int .i64 (lenT L n)) := by go_cell
    have P0 : (((w'.alloc (Obj.cells #[.int .i64 (lenT L n)] 2)).alloc (Obj.cells #[.int .i64 0] 2)).alloc (Obj.cells #[.bool false] 4)).cell? ⟨w.heap.size + 1 + 1, 0, none⟩ = some (.int .i64 pa) := by go_cell
    have P1 : (((w'.alloc (Obj.cells #[.int .i64 (lenT L n)] 2)).alloc (Obj.cells #[.int .i64 0] 2)).alloc (Obj.cells #[.bool false] 4)).cell? ⟨w.heap.size + 1 + 1, 1, none⟩ = some (.int .i64 pr) := by go_cell
    have P2 : (((w'.alloc (Obj.cells #[.int .i64 (lenT L n)] 2)).alloc (Obj.cells #[.int .i64 0] 2)).alloc (Obj.cells #[.bool false] 4)).cell? ⟨w.heap.size + 1 + 1, 2, none⟩ = some (.int .i64 pc) := by go_cell
    have P3 : (((w'.alloc (Obj.cells #[.int .i64 (lenT L n)] 2)).alloc (Obj.cells #[.int .i64 0] 2)).alloc (Obj.cells #[.bool false] 4)).cell? ⟨w.heap.size + 1 + 1, 3, none⟩ = some (.int .i64 py) := by go_cell
    have hs4 : w'.heap.size ≤ (((w'.alloc (Obj.cells #[.int .i64 (lenT L n)] 2)).alloc (Obj.cells #[.int .i64 0] 2)).alloc (Obj.cells #[.bool false] 4)).heap.size := by simp; omega
    generalize ((w'.alloc (Obj.cells #[.int .i64 (lenT L n)] 2)).alloc (Obj.cells #[.int .i64 0] 2)).alloc (Obj.cells #[.bool false] 4) = w4 at *
    go_wp2_with (go_at_call 35; refine (kr _ _ _ _ _ C1 S1).mono ?_; rintro e w5 ⟨rfl, hS⟩; have f2 : w5.cell? ⟨w'.heap.size + 1 + 1, 0, none⟩ = some (.bool true) := hS.f0; have f1 := hS.s0)
    go_returns
    exact ⟨rfl, hB4.trans (hS.keep.below (by omega) hB4.size)⟩
  · obtain ⟨rfl, rfl⟩ := E3.out hK
    simp only [if_neg hK, decide_eq_false hK] at kr
    go_enter Try.func14, Try.ntmps14
    go_upto_region 4 with (first | (go_at_call 26; (with_reducible refine (kt _ (hP.below (by first | exact hB | go_grown))).mono ?_); rintro e w' ⟨rfl, hb⟩; obtain ⟨hc, hf⟩ := bcell hb; have hz : w.heap.size < w'.heap.size := (by have := hb.size; (try simp at this); omega); have hz1 : w.heap.size + 1 < w'.heap.size := (by have := hb.size; (try simp at this); omega); have hz2 : w.heap.size + 1 + 1 < w'.heap.size := (by have := hb.size; (try simp at this); omega); have hz3 : w.heap.size + 1 + 1 + 1 < w'.heap.size := (by have := hb.size; (try simp at this); omega); have hB : Below w.heap.size w w' := Below.trans (by go_grown) (hb.mono (by go_size))) | (go_at_call 27; (with_reducible refine (kb _).mono ?_); rintro e w' ⟨rfl, hb⟩; obtain ⟨hc, hf⟩ := bcell hb; have hz : w.heap.size < w'.heap.size := (by have := hb.size; (try simp at this); omega); have hz1 : w.heap.size + 1 < w'.heap.size := (by have := hb.size; (try simp at this); omega); have hz2 : w.heap.size + 1 + 1 < w'.heap.size := (by have := hb.size; (try simp at this); omega); have hz3 : w.heap.size + 1 + 1 + 1 < w'.heap.size := (by have := hb.size; (try simp at this); omega); have hB : Below w.heap.size w w' := Below.trans (by go_grown) (hb.mono (by go_size))) | (go_at_call 34; (with_reducible refine (kp _).mono ?_); rintro e w' ⟨rfl, hb⟩; obtain ⟨hc, hf⟩ := bcell hb; have hz : w.heap.size < w'.heap.size := (by have := hb.size; (try simp at this); omega); have hz1 : w.heap.size + 1 < w'.heap.size := (by have := hb.size; (try simp at this); omega); have hz2 : w.heap.size + 1 + 1 < w'.heap.size := (by have := hb.size; (try simp at this); omega); have hz3 : w.heap.size + 1 + 1 + 1 < w'.heap.size := (by have := hb.size; (try simp at this); omega); have hB : Below w.heap.size w w' := Below.trans (by go_grown) (hb.mono (by go_size))) | (go_at_call 29; (with_reducible refine (kl _ (hP.below (by first | exact hB | go_grown))).mono ?_); rintro e w' ⟨rfl, hb⟩; obtain ⟨hc, hf⟩ := bcell hb; have hz : w.heap.size < w'.heap.size := (by have := hb.size; (try simp at this); omega); have hz1 : w.heap.size + 1 < w'.heap.size := (by have := hb.size; (try simp at this); omega); have hz2 : w.heap.size + 1 + 1 < w'.heap.size := (by have := hb.size; (try simp at this); omega); have hz3 : w.heap.size + 1 + 1 + 1 < w'.heap.size := (by have := hb.size; (try simp at this); omega); have hB : Below w.heap.size w w' := Below.trans (by go_grown) (hb.mono (by go_size))))
    have hB4 : Below w.heap.size w (((w'.alloc (Obj.cells #[.int .i64 (lenT L n)] 2)).alloc (Obj.cells #[.int .i64 0] 2)).alloc (Obj.cells #[.bool false] 4)) := by go_grown
    have hB44 : Below w'.heap.size w' (((w'.alloc (Obj.cells #[.int .i64 (lenT L n)] 2)).alloc (Obj.cells #[.int .i64 0] 2)).alloc (Obj.cells #[.bool false] 4)) := by go_grown
    have T0 : (((w'.alloc (Obj.cells #[.int .i64 (lenT L n)] 2)).alloc (Obj.cells #[.int .i64 0] 2)).alloc (Obj.cells #[.bool false] 4)).cell? ⟨w.heap.size, 0, none⟩ = some (.slice a n c) := (hB44.cell (p := ⟨w.heap.size, 0, none⟩) hz).trans (by go_cell)
    have T1 : (((w'.alloc (Obj.cells #[.int .i64 (lenT L n)] 2)).alloc (Obj.cells #[.int .i64 0] 2)).alloc (Obj.cells #[.bool false] 4)).cell? ⟨w.heap.size, 1, none⟩ = some (.int .i64 lf) := (hB44.cell (p := ⟨w.heap.size, 1, none⟩) hz).trans (by go_cell)
    have T2 : (((w'.alloc (Obj.cells #[.int .i64 (lenT L n)] 2)).alloc (Obj.cells #[.int .i64 0] 2)).alloc (Obj.cells #[.bool false] 4)).cell? ⟨w.heap.size, 2, none⟩ = some (.int .i64 lu) := (hB44.cell (p := ⟨w.heap.size, 2, none⟩) hz).trans (by go_cell)
    have C1 : RideCtx w.heap.size (w.heap.size + 1) (w.heap.size + 1 + 1 + 1) w'.heap.size a n c L G lf lu d f down (((w'.alloc (Obj.cells #[.int .i64 (lenT L n)] 2)).alloc (Obj.cells #[.int .i64 0] 2)).alloc (Obj.cells #[.bool false] 4)) :=
      ⟨T0, T1, T2, by go_cell, by go_cell, by go_cell, by go_cell, by omega, by omega, by omega, by simp, (HP.out.below hB4).mono (Nat.le_refl _) (by omega)⟩
    have S1 : RideSt w'.heap.size (((w'.alloc (Obj.cells #[.int .i64 (lenT L n)] 2)).alloc (Obj.cells #[.int .i64 0] 2)).alloc (Obj.cells #[.bool false] 4)) (((w'.alloc (Obj.cells #[.int .i64 (lenT L n)] 2)).alloc (Obj.cells #[.int .i64 0] 2)).alloc (Obj.cells #[.bool false] 4)) 0 false := ⟨by go_cell, by go_simp, by go_cell, by go_simp, Keep.refl _ _ _⟩
    have Y1 : (((w'.alloc (Obj.cells #[.int .i64 (lenT L n)] 2)).alloc (Obj.cells #[.int .i64 0] 2)).alloc (Obj.cells #[.bool false] 4)).cell? ⟨w'.heap.size, 0, none⟩ = some (.int .i64 (lenT L n)) := by go_cell
    have P0 : (((w'.alloc (Obj.cells #[.int .i64 (lenT L n)] 2)).alloc (Obj.cells #[.int .i64 0] 2)).alloc (Obj.cells #[.bool false] 4)).cell? ⟨w.heap.size + 1 + 1, 0, none⟩ = some (.int .i64 pa) := by go_cell
    have P1 : (((w'.alloc (Obj.cells #[.int .i64 (lenT L n)] 2)).alloc (Obj.cells #[.int .i64 0] 2)).alloc (Obj.cells #[.bool false] 4)).cell? ⟨w.heap.size + 1 + 1, 1, none⟩ = some (.int .i64 pr) := by go_cell
    have P2 : (((w'.alloc (Obj.cells #[.int .i64 (lenT L n)] 2)).alloc (Obj.cells #[.int .i64 0] 2)).alloc (Obj.cells #[.bool false] 4)).cell? ⟨w.heap.size + 1 + 1, 2, none⟩ = some (.int .i64 pc) := by go_cell
    have P3 : (((w'.alloc (Obj.cells #[.int .i64 (lenT L n)] 2)).alloc (Obj.cells #[.int .i64 0] 2)).alloc (Obj.cells #[.bool false] 4)).cell? ⟨w.heap.size + 1 + 1, 3, none⟩ = some (.int .i64 py) := by go_cell
    have hs4 : w'.heap.size ≤ (((w'.alloc (Obj.cells #[.int .i64 (lenT L n)] 2)).alloc (Obj.cells #[.int .i64 0] 2)).alloc (Obj.cells #[.bool false] 4)).heap.size := by simp; omega
    generalize ((w'.alloc (Obj.cells #[.int .i64 (lenT L n)] 2)).alloc (Obj.cells #[.int .i64 0] 2)).alloc (Obj.cells #[.bool false] 4) = w4 at *
    go_wp2_with (go_at_call 35; refine (kr _ _ _ _ _ C1 S1).mono ?_; rintro e w5 ⟨rfl, hS⟩; have f2 : w5.cell? ⟨w'.heap.size + 1 + 1, 0, none⟩ = some (.bool false) := hS.f0; have f1 := hS.s0)
    go_returns
    exact ⟨rfl, hB4.trans (hS.keep.below (by omega) hB4.size)⟩

end Go.Proofs.Ytcnnhklbilcbaaa
