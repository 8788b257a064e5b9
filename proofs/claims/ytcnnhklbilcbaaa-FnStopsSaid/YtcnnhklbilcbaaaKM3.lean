/-
  Contracts: whether a car on a track stops within the way that is left.
-/
import Derived.Test.YtcnnhklbilcbaaaKJ3
import Derived.Test.YtcnnhklbilcbaaaKL
import Derived.Test.YtcnnhklbilcbaaaPpf
namespace Go.Proofs.Ytcnnhklbilcbaaa
open Go.RowKit
set_option linter.unusedVariables false
set_option linter.unusedSimpArgs false

def inTimeB (L G : Nat → Int) (n : Nat) (d f x s : Int) (down : Bool) : Bool := withinV d f s (leftV (lenT L n) x down) (worstF G (G 0) down n) down
def stopsInB (L G : Nat → Int) (n : Nat) (lf lu d f x s : Int) (down : Bool) : Bool := (stopsC L G n lf lu d f x s down == 0) && inTimeB L G n d f x s down
theorem stopsC_at {L G : Nat → Int} {n : Nat} {lf lu d f x s : Int} {down : Bool} (h : stopsC L G n lf lu d f x s down = 0) : trackOk L G n lf lu = true ∧ validBrake d f = true ∧ inB x 0 (lenT L n) = true ∧ inB s 0 15000 = true := by
  by_cases h0 : tbC L G n lf lu d f x s = 0
  · exact tb_at h0
  · rw [(stops_e (down := down) h0).1] at h
    exact absurd h h0

set_option maxHeartbeats 2000000 in
theorem impl_stopsInTime (a : Option Addr) (n c : Nat) (L G : Nat → Int) (lf lu d f x s : Int) (down : Bool) (w : World) (hP : PassAt w a n L G) (h1 : trackOk L G n lf lu = true) (h2 : validBrake d f = true) (hx0 : 0 ≤ x) (hx1 : x ≤ lenT L n) (h7 : 0 ≤ s) (h8 : s ≤ 15000) :
    Calls Try.prog 33 #[.agg #[.slice a n c, .int .i64 lf, .int .i64 lu], .agg #[.int .i64 d, .int .i64 f], .int .i64 x, .int .i64 s, .bool down] w fun e w' => e = .returned (.bool (inTimeB L G n d f x s down)) ∧ Below w.heap.size w w' := by
  obtain ⟨n1, n12, hno, hlen⟩ := track_at h1
  have hL : ∀ j, j < n → 1 ≤ L j ∧ L j ≤ 3000000 := fun j hj => ⟨(secs_at hno hj).1, (secs_at hno hj).2.1⟩
  have hG : ∀ j, j < n → 0 ≤ G j ∧ G j ≤ 900 := fun j hj => ⟨(secs_at hno hj).2.2.1, (secs_at hno hj).2.2.2⟩
  obtain ⟨h5, h6, g1, g2⟩ := validBrake_bd h2
  obtain ⟨j0, hj, hjj⟩ := worstF_in (G := G) (down := down) n1
  have hgj := hG j0 hj
  rw [← hjj] at hgj
  have kl := fun W h => impl_length a n c L G lf lu W h n12 hL
  have kg := fun W h => impl_worstGrade a n c L G lf lu down W h n1 n12
  have kw := fun W => impl_stopsWithin d f s (leftV (lenT L n) x down) (worstF G (G 0) down n) down W g1 g2 hgj.1 hgj.2 h5 h6 h7 h8
  rw [show withinV d f s (leftV (lenT L n) x down) (worstF G (G 0) down n) down = inTimeB L G n d f x s down from rfl] at kw
  generalize inTimeB L G n d f x s down = R at *
  clear hjj hgj hj hL hG hno h1 h2
  cases down
  · rw [show leftV (lenT L n) x false = lenT L n - x from rfl] at kw
    generalize lenT L n = T at *
    generalize worstF G (G 0) false n = y at *
    go_enter Try.func33, Try.ntmps33
    go_wp2_with (go_at_call 29; (with_reducible refine (kl _ (hP.below (by first | exact hB | go_grown))).mono ?_); rintro e w' ⟨rfl, hb⟩; obtain ⟨hc, hf⟩ := bcell hb; have hz : w.heap.size < w'.heap.size := (by have := hb.size; (try simp at this); omega); have hz1 : w.heap.size + 1 < w'.heap.size := (by have := hb.size; (try simp at this); omega); have hB : Below w.heap.size w w' := Below.trans (by go_grown) (hb.mono (by go_size)))
    have hP1 := hP.below hB
    (refine wp_region_cls (by kernel_rfl) (by kernel_rfl) ?_; (repeat (go_big_quiet_step ((first | (go_at_call 32; exact cls_B (kg _ (hP1.below (Cls.below _)))) | (go_at_call 50; exact cls_B (kw _)))))); refine wpQuiet_nil ?_; rintro _ ⟨u, rfl⟩; have hb := u.below; replace hB := hB.trans (hb.mono hB.size); generalize u.w = w' at *; obtain ⟨hc, hf, hs⟩ := bkeep hb; have hq' := hb.size; have hq := hB.size; have hb' := hb; clear hb)
    go_wp2
    go_returns
    exact ⟨rfl, hB⟩
  · rw [show leftV (lenT L n) x true = x from rfl] at kw
    generalize lenT L n = T at *
    generalize worstF G (G 0) true n = y at *
    go_enter Try.func33, Try.ntmps33
    go_wp2_with (go_at_call 29; (with_reducible refine (kl _ (hP.below (by first | exact hB | go_grown))).mono ?_); rintro e w' ⟨rfl, hb⟩; obtain ⟨hc, hf⟩ := bcell hb; have hz : w.heap.size < w'.heap.size := (by have := hb.size; (try simp at this); omega); have hz1 : w.heap.size + 1 < w'.heap.size := (by have := hb.size; (try simp at this); omega); have hB : Below w.heap.size w w' := Below.trans (by go_grown) (hb.mono (by go_size)))
    have hP1 := hP.below hB
    (refine wp_region_cls (by kernel_rfl) (by kernel_rfl) ?_; (repeat (go_big_quiet_step ((first | (go_at_call 32; exact cls_B (kg _ (hP1.below (Cls.below _)))) | (go_at_call 50; exact cls_B (kw _)))))); refine wpQuiet_nil ?_; rintro _ ⟨u, rfl⟩; have hb := u.below; replace hB := hB.trans (hb.mono hB.size); generalize u.w = w' at *; obtain ⟨hc, hf, hs⟩ := bkeep hb; have hq' := hb.size; have hq := hB.size; have hb' := hb; clear hb)
    go_wp2
    go_returns
    exact ⟨rfl, hB⟩

set_option maxHeartbeats 2000000 in
theorem impl_StopsInTime (a : Option Addr) (n c : Nat) (L G : Nat → Int) (lf lu d f x s : Int) (down : Bool) (w : World) (hP : PassAt w a n L G) (hn : n ≤ 1048576) :
    Calls Try.prog 13 #[.agg #[.slice a n c, .int .i64 lf, .int .i64 lu], .agg #[.int .i64 d, .int .i64 f], .int .i64 x, .int .i64 s, .bool down] w fun e w' => e = .returned (.bool (stopsInB L G n lf lu d f x s down)) ∧ Below w.heap.size w w' := by
  have kS := fun W h => impl_StopsOn a n c L G lf lu d f x s down W h hn
  unfold stopsInB
  by_cases h0 : stopsC L G n lf lu d f x s down = 0
  · obtain ⟨t1, t2, t3, t4⟩ := stopsC_at h0
    rw [inB_true] at t3 t4
    have kI := fun W h => impl_stopsInTime a n c L G lf lu d f x s down W h t1 t2 t3.1 t3.2 t4.1 t4.2
    rw [h0] at kS ⊢
    clear h0 t1 t2 t3 t4
    generalize stopsV L G n lf lu d f x s down = V at *
    generalize inTimeB L G n d f x s down = R at *
    go_enter Try.func13, Try.ntmps13
    go_wp2_with (first | (go_at_call 12; (with_reducible refine (kS _ (hP.below (by first | exact hB | go_grown))).mono ?_); rintro e w' ⟨rfl, hb⟩; obtain ⟨hc, hf⟩ := bcell hb; have hz : w.heap.size < w'.heap.size := (by have := hb.size; (try simp at this); omega); have hz1 : w.heap.size + 1 < w'.heap.size := (by have := hb.size; (try simp at this); omega); have hB : Below w.heap.size w w' := Below.trans (by go_grown) (hb.mono (by go_size))))
    have hP1 := hP.below hB
    go_wp2_with (first | (go_at_call 33; (with_reducible refine (kI _ (hP.below (by first | exact hB | go_grown))).mono ?_); rintro e w' ⟨rfl, hb⟩; obtain ⟨hc, hf⟩ := bcell hb; have hz : w.heap.size < w'.heap.size := (by have := hb.size; (try simp at this); omega); have hz1 : w.heap.size + 1 < w'.heap.size := (by have := hb.size; (try simp at this); omega); have hB : Below w.heap.size w w' := Below.trans (by go_grown) (hb.mono (by go_size))))
    go_returns
    exact ⟨rfl, hB⟩
  · rw [show (stopsC L G n lf lu d f x s down == 0) = false from beq_eq_false_iff_ne.2 h0]
    have hc : (stopsC L G n lf lu d f x s down == 0) = false := beq_eq_false_iff_ne.2 h0
    generalize stopsV L G n lf lu d f x s down = V at *
    generalize stopsC L G n lf lu d f x s down = C at *
    clear h0
    go_enter Try.func13, Try.ntmps13
    go_wp2_with (first | (go_at_call 12; (with_reducible refine (kS _ (hP.below (by first | exact hB | go_grown))).mono ?_); rintro e w' ⟨rfl, hb⟩; obtain ⟨hc, hf⟩ := bcell hb; have hz : w.heap.size < w'.heap.size := (by have := hb.size; (try simp at this); omega); have hz1 : w.heap.size + 1 < w'.heap.size := (by have := hb.size; (try simp at this); omega); have hB : Below w.heap.size w w' := Below.trans (by go_grown) (hb.mono (by go_size))))
    go_returns
    exact ⟨rfl, hB⟩

set_option maxHeartbeats 2000000 in
theorem spec_l11InTime (g q : Nat) (a : Option Addr) (n c : Nat) (L G : Nat → Int) (lf lu : Int) (bb bo : Nat) (d f x s : Int) (down : Bool) (w : World) (t0 : w.cell? ⟨g, q, none⟩ = some (.slice a n c)) (hP : PassAt w a n L G)
    (b0 : w.cell? ⟨bb, bo, none⟩ = some (.int .i64 d)) (b1 : w.cell? ⟨bb, bo + 1, none⟩ = some (.int .i64 f)) (h1 : trackOk L G n lf lu = true) (h2 : validBrake d f = true) (hx0 : 0 ≤ x) (hx1 : x ≤ lenT L n) (h7 : 0 ≤ s) (h8 : s ≤ 15000) :
    Calls Try.prog 42 #[.pointer (some ⟨g, q, none⟩), .pointer (some ⟨bb, bo, none⟩), .int .i64 x, .int .i64 s, .bool down] w fun e w' => e = .returned (.bool (inTimeB L G n d f x s down)) ∧ Below w.heap.size w w' := by
  obtain ⟨n1, n12, hno, hlen⟩ := track_at h1
  have hL : ∀ j, j < n → 1 ≤ L j ∧ L j ≤ 3000000 := fun j hj => ⟨(secs_at hno hj).1, (secs_at hno hj).2.1⟩
  have hG : ∀ j, j < n → 0 ≤ G j ∧ G j ≤ 900 := fun j hj => ⟨(secs_at hno hj).2.2.1, (secs_at hno hj).2.2.2⟩
  obtain ⟨h5, h6, g1, g2⟩ := validBrake_bd h2
  have hg1 : g < w.heap.size := World.block_lt_of_cell? w _ t0
  have kl := fun W u0 u1 u2 u3 => spec_l11On g q a n c L G bb bo d f x s down W u0 u1 u2 u3 n1 n12 hL hG hx0 (by omega) g1 g2 h5 h6 h7 h8
  have kT := fun W h h' => spec_l03Length g q a n c L G W h h' n12 hL
  have hw := fun hF => way_bd (d := d) (F := forceV f (worstF G (G 0) down n) down) h7 h8 h5 h6 hF
  unfold inTimeB withinV
  unfold onV at kl
  generalize worstF G (G 0) down n = y at *
  generalize forceV f y down = F at *
  generalize lenT L n = T at *
  clear hL hG hno h1 h2
  by_cases hF : F ≤ 0
  · rw [decide_eq_false (show ¬ 0 < F by omega), Bool.false_and]
    simp only [if_pos hF] at kl
    clear hw
    cases down
    all_goals
      go_enter Try.func42, Try.ntmps42
      go_wp2_with (first | (go_at_call 57; (with_reducible refine (kl _ t0 hP b0 b1).mono ?_); rintro e w' ⟨rfl, hb⟩; obtain ⟨hc, hf⟩ := bcell hb; have hz : w.heap.size ≤ w'.heap.size := (by have := hb.size; (try simp at this); omega); have hB : Below w.heap.size w w' := Below.trans (by go_grown) (hb.mono (by go_size))) | (go_at_call 23; (with_reducible refine (kT _ ((hB.cell (p := ⟨g, q, none⟩) hg1).trans t0) (hP.below hB)).mono ?_); rintro e w' ⟨rfl, rfl⟩))
      go_returns
      exact ⟨rfl, hB⟩
  · rw [decide_eq_true (show 0 < F by omega), Bool.true_and]
    simp only [if_neg hF] at kl
    have hw := hw (by omega)
    generalize wayV d F s = V at *
    have hV : ¬ V < 0 := by omega
    have hV0 : 0 ≤ V := by omega
    cases down
    · rw [show leftV T x false = T - x from rfl]
      go_enter Try.func42, Try.ntmps42
      go_wp2_with (first | (go_at_call 57; (with_reducible refine (kl _ t0 hP b0 b1).mono ?_); rintro e w' ⟨rfl, hb⟩; obtain ⟨hc, hf⟩ := bcell hb; have hz : w.heap.size ≤ w'.heap.size := (by have := hb.size; (try simp at this); omega); have hB : Below w.heap.size w w' := Below.trans (by go_grown) (hb.mono (by go_size))) | (go_at_call 23; (with_reducible refine (kT _ ((hB.cell (p := ⟨g, q, none⟩) hg1).trans t0) (hP.below hB)).mono ?_); rintro e w' ⟨rfl, rfl⟩))
      go_returns
      exact ⟨rfl, hB⟩
    · rw [show leftV T x true = x from rfl]
      go_enter Try.func42, Try.ntmps42
      go_wp2_with (first | (go_at_call 57; (with_reducible refine (kl _ t0 hP b0 b1).mono ?_); rintro e w' ⟨rfl, hb⟩; obtain ⟨hc, hf⟩ := bcell hb; have hz : w.heap.size ≤ w'.heap.size := (by have := hb.size; (try simp at this); omega); have hB : Below w.heap.size w w' := Below.trans (by go_grown) (hb.mono (by go_size))) | (go_at_call 23; (with_reducible refine (kT _ ((hB.cell (p := ⟨g, q, none⟩) hg1).trans t0) (hP.below hB)).mono ?_); rintro e w' ⟨rfl, rfl⟩))
      go_returns
      exact ⟨rfl, hB⟩

set_option maxHeartbeats 2000000 in
theorem spec_StopsInTime (a : Option Addr) (n c : Nat) (L G : Nat → Int) (lf lu d f x s : Int) (down : Bool) (w : World) (hP : PassAt w a n L G) (hn : n ≤ 1048576) :
    Calls Try.prog 17 #[.agg #[.slice a n c, .int .i64 lf, .int .i64 lu], .agg #[.int .i64 d, .int .i64 f], .int .i64 x, .int .i64 s, .bool down] w fun e w' => e = .returned (.bool (stopsInB L G n lf lu d f x s down)) ∧ Below w.heap.size w w' := by
  have kt := fun W h0 h1 h2 h3 h4 h5 => spec_l11Track w.heap.size 0 a n c L G lf lu (w.heap.size + 1) 0 d f x s W h0 h1 h2 h3 h4 h5 hn
  by_cases h0 : tbC L G n lf lu d f x s = 0
  · obtain ⟨t1, t2, t3, t4⟩ := tb_at h0
    rw [inB_true] at t3 t4
    have kl := fun W u0 u1 u2 u3 => spec_l11InTime w.heap.size 0 a n c L G lf lu (w.heap.size + 1) 0 d f x s down W u0 u1 u2 u3 t1 t2 t3.1 t3.2 t4.1 t4.2
    have e : stopsInB L G n lf lu d f x s down = inTimeB L G n d f x s down := by
      unfold stopsInB
      by_cases h2 : forceV f (worstF G (G 0) down n) down ≤ 0
      · rw [(stops_3 (down := down) h0 h2).1]
        unfold inTimeB withinV
        rw [decide_eq_false (show ¬ 0 < forceV f (worstF G (G 0) down n) down by omega), Bool.false_and]; rfl
      · rw [(stops_0 (down := down) h0 h2).1]; rfl
    rw [e]
    rw [h0] at kt
    generalize inTimeB L G n d f x s down = R at *
    clear h0 e t1 t2 t3 t4
    go_enter Try.func17, Try.ntmps17
    go_wp2_with (first | (go_at_call 41; refine (kt _ (by go_cell) (by go_cell) (by go_cell) (by go_cell) (by go_cell) (hP.below (by go_grown))).mono ?_; rintro e' w1 ⟨rfl, hb⟩; have hB1 : Below w.heap.size w w1 := Below.trans (by go_grown) (hb.mono (by go_size)); have k0 : w1.cell? ⟨w.heap.size, 0, none⟩ = some (.slice a n c) := (hb.cell (p := ⟨w.heap.size, 0, none⟩) (by simp; omega)).trans (by go_cell); have k1 : w1.cell? ⟨w.heap.size + 1, 0, none⟩ = some (.int .i64 d) := (hb.cell (p := ⟨w.heap.size + 1, 0, none⟩) (by simp)).trans (by go_cell); have k2 : w1.cell? ⟨w.heap.size + 1, 1, none⟩ = some (.int .i64 f) := (hb.cell (p := ⟨w.heap.size + 1, 1, none⟩) (by simp)).trans (by go_cell)) | (go_at_call 42; refine (kl _ k0 (hP.below hB1) k1 k2).mono ?_; rintro e' w2 ⟨rfl, hb2⟩))
    go_returns
    exact ⟨rfl, hB1.trans (hb2.mono hB1.size)⟩
  · have e : stopsInB L G n lf lu d f x s down = false := by
      unfold stopsInB
      rw [(stops_e (down := down) h0).1, beq_eq_false_iff_ne.2 h0]; rfl
    rw [e]
    have hc0 : (tbC L G n lf lu d f x s == 0) = false := by simpa using h0
    generalize tbC L G n lf lu d f x s = C at *
    clear e h0
    go_enter Try.func17, Try.ntmps17
    go_wp2_with (go_at_call 41; refine (kt _ (by go_cell) (by go_cell) (by go_cell) (by go_cell) (by go_cell) (hP.below (by go_grown))).mono ?_; rintro e' w1 ⟨rfl, hb⟩; have hB1 : Below w.heap.size w w1 := Below.trans (by go_grown) (hb.mono (by go_size)))
    go_returns
    exact ⟨rfl, hB1⟩

end Go.Proofs.Ytcnnhklbilcbaaa
