/-
  Contract: the first unsafe second of a ride, in the reference.
-/
import Derived.Test.YtaagfkldcdebcaaKO3
namespace Go.Proofs.Ytaagfkldcdebcaa
open Go.RowKit
set_option linter.unusedVariables false
set_option linter.unusedSimpArgs false


set_option maxHeartbeats 4000000 in
theorem spec_FirstUnsafe (a : Option Addr) (n c : Nat) (L G : Nat → Int) (lf lu d f pa pr pc py : Int) (down : Bool) (w : World) (hP : PassAt w a n L G) (hn : n ≤ 1048576) :
    Calls Try.prog 16 #[.agg #[.slice a n c, .int .i64 lf, .int .i64 lu], .agg #[.int .i64 d, .int .i64 f], .agg #[.int .i64 pa, .int .i64 pr, .int .i64 pc, .int .i64 py], .bool down] w fun e w' => e = .returned (.tuple #[.int .i64 (firstV L G n lf lu d f pa pr pc py down), .int .i64 (firstC L G n lf lu d f pa pr pc py down)]) ∧ Below w.heap.size w w' := by
  have kt := fun W h0 h1 h2 h => spec_l03Ok w.heap.size 0 a n c L G lf lu W h0 h1 h2 h hn
  have kb := fun W h0 h1 => spec_l11Ok (w.heap.size + 1) 0 d f W h0 h1
  have kp := fun W h0 h1 h2 h3 => spec_l09Ok (w.heap.size + 1 + 1) 0 pa pr pc py W h0 h1 h2 h3
  cases h1 : trackOk L G n lf lu
  · obtain ⟨e1, e2⟩ := first_1 (L := L) (G := G) (n := n) (lf := lf) (lu := lu) (d := d) (f := f) (a := pa) (r := pr) (c := pc) (y := py) (down := down) (by unfold firstOk; rw [h1]; rfl)
    rw [e1, e2]
    rw [h1] at kt
    clear e1 e2 h1 kb kp
    go_enter Try.func16, Try.ntmps16
    go_wp2_with (first | (go_at_call 49; refine (kt _ (by go_cell) (by go_cell) (by go_cell) (hP.below (by go_grown))).mono ?_; rintro e' w1 ⟨rfl, hb⟩; have hB1 : Below w.heap.size w w1 := Below.trans (by go_grown) (hb.mono (by go_size)); obtain ⟨hc, hf, hs⟩ := bkeep hb; have hq1 := hb.size; simp at hq1; clear hb; have z0 : w.heap.size < w1.heap.size := (by omega); have z1 : w.heap.size + 1 < w1.heap.size := (by omega); have z2 : w.heap.size + 1 + 1 < w1.heap.size := (by omega)))
    go_returns
    exact ⟨rfl, hB1⟩
  rw [h1] at kt
  cases h2 : validBrake d f
  · obtain ⟨e1, e2⟩ := first_1 (L := L) (G := G) (n := n) (lf := lf) (lu := lu) (d := d) (f := f) (a := pa) (r := pr) (c := pc) (y := py) (down := down) (by unfold firstOk; rw [h2]; simp)
    rw [e1, e2]
    rw [h2] at kb
    clear e1 e2 h1 h2 kp
    go_enter Try.func16, Try.ntmps16
    go_wp2_with (first | (go_at_call 49; refine (kt _ (by go_cell) (by go_cell) (by go_cell) (hP.below (by go_grown))).mono ?_; rintro e' w1 ⟨rfl, hb⟩; have hB1 : Below w.heap.size w w1 := Below.trans (by go_grown) (hb.mono (by go_size)); obtain ⟨hc, hf, hs⟩ := bkeep hb; have hq1 := hb.size; simp at hq1; clear hb; have z0 : w.heap.size < w1.heap.size := (by omega); have z1 : w.heap.size + 1 < w1.heap.size := (by omega); have z2 : w.heap.size + 1 + 1 < w1.heap.size := (by omega)) | (go_at_call 50; refine (kb _ (by go_cell) (by go_cell)).mono ?_; rintro e' w1' ⟨rfl, rfl⟩))
    go_returns
    exact ⟨rfl, hB1⟩
  rw [h2] at kb
  cases h3 : profOk pa pr pc py
  · obtain ⟨e1, e2⟩ := first_1 (L := L) (G := G) (n := n) (lf := lf) (lu := lu) (d := d) (f := f) (a := pa) (r := pr) (c := pc) (y := py) (down := down) (by unfold firstOk; rw [h3]; simp)
    rw [e1, e2]
    rw [h3] at kp
    clear e1 e2 h1 h2 h3
    go_enter Try.func16, Try.ntmps16
    go_wp2_with (first | (go_at_call 49; refine (kt _ (by go_cell) (by go_cell) (by go_cell) (hP.below (by go_grown))).mono ?_; rintro e' w1 ⟨rfl, hb⟩; have hB1 : Below w.heap.size w w1 := Below.trans (by go_grown) (hb.mono (by go_size)); obtain ⟨hc, hf, hs⟩ := bkeep hb; have hq1 := hb.size; simp at hq1; clear hb; have z0 : w.heap.size < w1.heap.size := (by omega); have z1 : w.heap.size + 1 < w1.heap.size := (by omega); have z2 : w.heap.size + 1 + 1 < w1.heap.size := (by omega)) | (go_at_call 50; refine (kb _ (by go_cell) (by go_cell)).mono ?_; rintro e' w1' ⟨rfl, rfl⟩) | (go_at_call 51; refine (kp _ (by go_cell) (by go_cell) (by go_cell) (by go_cell)).mono ?_; rintro e' w2 ⟨rfl, hb⟩; have hB2 : Below w.heap.size w w2 := hB1.trans (hb.mono hB1.size); obtain ⟨hc2, hf2, hs2⟩ := bkeep hb; have hq2 := hb.size; clear hb; have y0 : w.heap.size < w2.heap.size := (by omega); have y1 : w.heap.size + 1 < w2.heap.size := (by omega); have y2 : w.heap.size + 1 + 1 < w2.heap.size := (by omega)))
    go_returns
    exact ⟨rfl, hB2⟩
  rw [h3] at kp
  have hok : firstOk L G n lf lu d f pa pr pc py = true := by unfold firstOk; rw [h1, h2, h3]; rfl
  have ku := fun W u0 u1 u2 u3 u4 u5 u6 u7 => spec_l11Unsafe w.heap.size (w.heap.size + 1) (w.heap.size + 1 + 1) a n c L G lf lu d f down pa pr pc py W u0 u1 u2 u3 u4 u5 u6 u7 h1 h2 h3
  have E3 := Lib.hid (fun h => first_3 (L := L) (G := G) (n := n) (lf := lf) (lu := lu) (d := d) (f := f) (a := pa) (r := pr) (c := pc) (y := py) (down := down) hok h)
  have E0 := Lib.hid (fun h => first_0 (L := L) (G := G) (n := n) (lf := lf) (lu := lu) (d := d) (f := f) (a := pa) (r := pr) (c := pc) (y := py) (down := down) hok h)
  have hbt := time_le (a := pa) (r := pr) (c := pc) (y := py) (n := lenT L n)
  obtain ⟨_, _, _, hlen⟩ := track_at h1
  have hKb : timeN pa pr pc py (lenT L n) ≤ 3000001 := by omega
  clear hbt hlen
  generalize firstV L G n lf lu d f pa pr pc py down = V at *
  generalize firstC L G n lf lu d f pa pr pc py down = C at *
  generalize firstN L G n d f pa pr pc py down = K at *
  generalize timeN pa pr pc py (lenT L n) = K1 at *
  clear h1 h2 h3 hok
  by_cases hK : K < K1
  · obtain ⟨rfl, rfl⟩ := E0.out hK
    simp only [if_pos hK] at ku
    go_enter Try.func16, Try.ntmps16
    go_wp2_with (first | (go_at_call 49; refine (kt _ (by go_cell) (by go_cell) (by go_cell) (hP.below (by go_grown))).mono ?_; rintro e' w1 ⟨rfl, hb⟩; have hB1 : Below w.heap.size w w1 := Below.trans (by go_grown) (hb.mono (by go_size)); obtain ⟨hc, hf, hs⟩ := bkeep hb; have hq1 := hb.size; simp at hq1; clear hb; have z0 : w.heap.size < w1.heap.size := (by omega); have z1 : w.heap.size + 1 < w1.heap.size := (by omega); have z2 : w.heap.size + 1 + 1 < w1.heap.size := (by omega)) | (go_at_call 50; refine (kb _ (by go_cell) (by go_cell)).mono ?_; rintro e' w1' ⟨rfl, rfl⟩) | (go_at_call 51; refine (kp _ (by go_cell) (by go_cell) (by go_cell) (by go_cell)).mono ?_; rintro e' w2 ⟨rfl, hb⟩; have hB2 : Below w.heap.size w w2 := hB1.trans (hb.mono hB1.size); obtain ⟨hc2, hf2, hs2⟩ := bkeep hb; have hq2 := hb.size; clear hb; have y0 : w.heap.size < w2.heap.size := (by omega); have y1 : w.heap.size + 1 < w2.heap.size := (by omega); have y2 : w.heap.size + 1 + 1 < w2.heap.size := (by omega)) | (go_at_call 52; go_loud (refine (ku _ (by go_cell) (hP.below hB2) (by go_cell) (by go_cell) (by go_cell) (by go_cell) (by go_cell) (by go_cell)).mono ?_); (rintro e' w3 ⟨rfl, hb⟩); have hB3 : Below w.heap.size w w3 := hB2.trans (hb.mono hB2.size); clear hb))
    go_returns
    exact ⟨rfl, hB3⟩
  · obtain ⟨rfl, rfl⟩ := E3.out hK
    simp only [if_neg hK] at ku
    go_enter Try.func16, Try.ntmps16
    go_wp2_with (first | (go_at_call 49; refine (kt _ (by go_cell) (by go_cell) (by go_cell) (hP.below (by go_grown))).mono ?_; rintro e' w1 ⟨rfl, hb⟩; have hB1 : Below w.heap.size w w1 := Below.trans (by go_grown) (hb.mono (by go_size)); obtain ⟨hc, hf, hs⟩ := bkeep hb; have hq1 := hb.size; simp at hq1; clear hb; have z0 : w.heap.size < w1.heap.size := (by omega); have z1 : w.heap.size + 1 < w1.heap.size := (by omega); have z2 : w.heap.size + 1 + 1 < w1.heap.size := (by omega)) | (go_at_call 50; refine (kb _ (by go_cell) (by go_cell)).mono ?_; rintro e' w1' ⟨rfl, rfl⟩) | (go_at_call 51; refine (kp _ (by go_cell) (by go_cell) (by go_cell) (by go_cell)).mono ?_; rintro e' w2 ⟨rfl, hb⟩; have hB2 : Below w.heap.size w w2 := hB1.trans (hb.mono hB1.size); obtain ⟨hc2, hf2, hs2⟩ := bkeep hb; have hq2 := hb.size; clear hb; have y0 : w.heap.size < w2.heap.size := (by omega); have y1 : w.heap.size + 1 < w2.heap.size := (by omega); have y2 : w.heap.size + 1 + 1 < w2.heap.size := (by omega)) | (go_at_call 52; go_loud (refine (ku _ (by go_cell) (hP.below hB2) (by go_cell) (by go_cell) (by go_cell) (by go_cell) (by go_cell) (by go_cell)).mono ?_); (rintro e' w3 ⟨rfl, hb⟩); have hB3 : Below w.heap.size w w3 := hB2.trans (hb.mono hB2.size); clear hb))
    go_returns
    exact ⟨rfl, hB3⟩

end Go.Proofs.Ytaagfkldcdebcaa
