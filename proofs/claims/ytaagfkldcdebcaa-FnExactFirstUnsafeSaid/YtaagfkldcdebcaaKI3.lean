/-
  Contracts: the way in which a car on a track stops.
-/
import Derived.Test.YtaagfkldcdebcaaKH3
namespace Go.Proofs.Ytaagfkldcdebcaa
open Go.RowKit
set_option linter.unusedVariables false
set_option linter.unusedSimpArgs false

def stopsC (L G : Nat → Int) (n : Nat) (lf lu d f x s : Int) (down : Bool) : Int :=
  if tbC L G n lf lu d f x s = 0 then (if forceV f (worstF G (G 0) down n) down ≤ 0 then 3 else 0) else tbC L G n lf lu d f x s
def stopsV (L G : Nat → Int) (n : Nat) (lf lu d f x s : Int) (down : Bool) : Int :=
  if stopsC L G n lf lu d f x s down = 0 then wayV d (forceV f (worstF G (G 0) down n) down) s else 0
section
variable {L G : Nat → Int} {n : Nat} {lf lu d f x s : Int} {down : Bool}
theorem tb_at (h : tbC L G n lf lu d f x s = 0) : trackOk L G n lf lu = true ∧ validBrake d f = true ∧ inB x 0 (lenT L n) = true ∧ inB s 0 15000 = true := by
  unfold tbC at h
  split at h
  · rename_i h1
    split at h
    · rename_i h2
      rw [Bool.and_eq_true] at h1 h2
      exact ⟨h1.1, h1.2, h2.1, h2.2⟩
    · simp at h
  · simp at h
theorem stops_e (h : tbC L G n lf lu d f x s ≠ 0) : stopsC L G n lf lu d f x s down = tbC L G n lf lu d f x s ∧ stopsV L G n lf lu d f x s down = 0 := by
  have e : stopsC L G n lf lu d f x s down = tbC L G n lf lu d f x s := by unfold stopsC; rw [if_neg h]
  exact ⟨e, by unfold stopsV; rw [if_neg (by rw [e]; exact h)]⟩
theorem stops_3 (h : tbC L G n lf lu d f x s = 0) (h2 : forceV f (worstF G (G 0) down n) down ≤ 0) : stopsC L G n lf lu d f x s down = 3 ∧ stopsV L G n lf lu d f x s down = 0 := by
  have e : stopsC L G n lf lu d f x s down = 3 := by unfold stopsC; rw [if_pos h, if_pos h2]
  exact ⟨e, by unfold stopsV; rw [if_neg (by rw [e]; decide)]⟩
theorem stops_0 (h : tbC L G n lf lu d f x s = 0) (h2 : ¬ forceV f (worstF G (G 0) down n) down ≤ 0) : stopsC L G n lf lu d f x s down = 0 ∧ stopsV L G n lf lu d f x s down = wayV d (forceV f (worstF G (G 0) down n) down) s := by
  have e : stopsC L G n lf lu d f x s down = 0 := by unfold stopsC; rw [if_pos h, if_neg h2]
  exact ⟨e, by unfold stopsV; rw [if_pos e]⟩
end

set_option maxHeartbeats 2000000 in
theorem spec_StopsOn (a : Option Addr) (n c : Nat) (L G : Nat → Int) (lf lu d f x s : Int) (down : Bool) (w : World) (hP : PassAt w a n L G) (hn : n ≤ 1048576) :
    Calls Try.prog 9 #[.agg #[.slice a n c, .int .i64 lf, .int .i64 lu], .agg #[.int .i64 d, .int .i64 f], .int .i64 x, .int .i64 s, .bool down] w fun e w' => e = .returned (.tuple #[.int .i64 (stopsV L G n lf lu d f x s down), .int .i64 (stopsC L G n lf lu d f x s down)]) ∧ Below w.heap.size w w' := by
  have kt := fun W h0 h1 h2 h3 h4 h5 => spec_l11Track w.heap.size 0 a n c L G lf lu (w.heap.size + 1) 0 d f x s W h0 h1 h2 h3 h4 h5 hn
  by_cases h0 : tbC L G n lf lu d f x s = 0
  · obtain ⟨t1, t2, t3, t4⟩ := tb_at h0
    obtain ⟨n1, n12, hno, hlen⟩ := track_at t1
    unfold validBrake at t2
    rw [Bool.and_eq_true, inB_true, inB_true] at t2
    rw [inB_true] at t3 t4
    have hL : ∀ j, j < n → 1 ≤ L j ∧ L j ≤ 3000000 := fun j hj => ⟨(secs_at hno hj).1, (secs_at hno hj).2.1⟩
    have hG : ∀ j, j < n → 0 ≤ G j ∧ G j ≤ 900 := fun j hj => ⟨(secs_at hno hj).2.2.1, (secs_at hno hj).2.2.2⟩
    have kl := fun W h h' h3 h4 => spec_l11On w.heap.size 0 a n c L G (w.heap.size + 1) 0 d f x s down W h h' h3 h4 n1 n12 hL hG t3.1 (by omega) t2.2.1 t2.2.2 t2.1.1 t2.1.2 t4.1 t4.2
    rw [h0] at kt
    have hz2 := hP
    by_cases h2 : forceV f (worstF G (G 0) down n) down ≤ 0
    · obtain ⟨e1, e2⟩ := stops_3 (down := down) h0 h2
      rw [e1, e2]
      rw [show onV d f s (worstF G (G 0) down n) down = -1 from if_pos h2] at kl
      clear e1 e2 h0 h2 hL hG hno t3 t4 t2
      go_enter Try.func9, Try.ntmps9
      go_wp2_with (first | (go_at_call 36; refine (kt _ (by go_cell) (by go_cell) (by go_cell) (by go_cell) (by go_cell) (hP.below (by go_grown))).mono ?_; rintro e' w1 ⟨rfl, hb⟩; have hB1 : Below w.heap.size w w1 := Below.trans (by go_grown) (hb.mono (by go_size)); have k0 : w1.cell? ⟨w.heap.size, 0, none⟩ = some (.slice a n c) := (hb.cell (p := ⟨w.heap.size, 0, none⟩) (by simp; omega)).trans (by go_cell); have k1 : w1.cell? ⟨w.heap.size + 1, 0, none⟩ = some (.int .i64 d) := (hb.cell (p := ⟨w.heap.size + 1, 0, none⟩) (by simp)).trans (by go_cell); have k2 : w1.cell? ⟨w.heap.size + 1, 1, none⟩ = some (.int .i64 f) := (hb.cell (p := ⟨w.heap.size + 1, 1, none⟩) (by simp)).trans (by go_cell)) | (go_at_call 37; refine (kl _ k0 (hP.below hB1) k1 k2).mono ?_; rintro e' w2 ⟨rfl, hb2⟩))
      go_returns
      exact ⟨rfl, hB1.trans (hb2.mono hB1.size)⟩
    · obtain ⟨e1, e2⟩ := stops_0 (down := down) h0 h2
      rw [e1, e2]
      have hw := way_bd (d := d) (F := forceV f (worstF G (G 0) down n) down) t4.1 t4.2 t2.1.1 t2.1.2 (by omega)
      rw [show onV d f s (worstF G (G 0) down n) down = wayV d (forceV f (worstF G (G 0) down n) down) s from if_neg h2] at kl
      clear e1 e2 h0 h2 hL hG hno t3 t4 t2
      generalize wayV d (forceV f (worstF G (G 0) down n) down) s = V at *
      have hV : ¬ V < 0 := by omega
      go_enter Try.func9, Try.ntmps9
      go_wp2_with (first | (go_at_call 36; refine (kt _ (by go_cell) (by go_cell) (by go_cell) (by go_cell) (by go_cell) (hP.below (by go_grown))).mono ?_; rintro e' w1 ⟨rfl, hb⟩; have hB1 : Below w.heap.size w w1 := Below.trans (by go_grown) (hb.mono (by go_size)); have k0 : w1.cell? ⟨w.heap.size, 0, none⟩ = some (.slice a n c) := (hb.cell (p := ⟨w.heap.size, 0, none⟩) (by simp; omega)).trans (by go_cell); have k1 : w1.cell? ⟨w.heap.size + 1, 0, none⟩ = some (.int .i64 d) := (hb.cell (p := ⟨w.heap.size + 1, 0, none⟩) (by simp)).trans (by go_cell); have k2 : w1.cell? ⟨w.heap.size + 1, 1, none⟩ = some (.int .i64 f) := (hb.cell (p := ⟨w.heap.size + 1, 1, none⟩) (by simp)).trans (by go_cell)) | (go_at_call 37; refine (kl _ k0 (hP.below hB1) k1 k2).mono ?_; rintro e' w2 ⟨rfl, hb2⟩))
      go_returns
      exact ⟨rfl, hB1.trans (hb2.mono hB1.size)⟩
  · obtain ⟨e1, e2⟩ := stops_e (down := down) h0
    rw [e1, e2]
    have hc0 : (tbC L G n lf lu d f x s != 0) = true := by simpa using h0
    generalize tbC L G n lf lu d f x s = C at *
    clear e1 e2 h0
    go_enter Try.func9, Try.ntmps9
    go_wp2_with (go_at_call 36; refine (kt _ (by go_cell) (by go_cell) (by go_cell) (by go_cell) (by go_cell) (hP.below (by go_grown))).mono ?_; rintro e' w1 ⟨rfl, hb⟩; have hB1 : Below w.heap.size w w1 := Below.trans (by go_grown) (hb.mono (by go_size)))
    go_returns
    exact ⟨rfl, hB1⟩

end Go.Proofs.Ytaagfkldcdebcaa
