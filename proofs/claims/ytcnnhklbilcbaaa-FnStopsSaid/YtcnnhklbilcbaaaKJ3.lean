/-
  Contracts: the way in which a car on a track stops, in the program.
-/
import Derived.Test.YtcnnhklbilcbaaaKI3
namespace Go.Proofs.Ytcnnhklbilcbaaa
open Go.RowKit
set_option linter.unusedVariables false
set_option linter.unusedSimpArgs false


set_option maxHeartbeats 4000000 in
theorem impl_StopsOn (a : Option Addr) (n c : Nat) (L G : Nat → Int) (lf lu d f x s : Int) (down : Bool) (w : World) (hP : PassAt w a n L G) (hn : n ≤ 1048576) :
    Calls Try.prog 12 #[.agg #[.slice a n c, .int .i64 lf, .int .i64 lu], .agg #[.int .i64 d, .int .i64 f], .int .i64 x, .int .i64 s, .bool down] w fun e w' => e = .returned (.tuple #[.int .i64 (stopsV L G n lf lu d f x s down), .int .i64 (stopsC L G n lf lu d f x s down)]) ∧ Below w.heap.size w w' := by
  have kt := fun W h => impl_ValidTrack a n c L G lf lu W h hn
  have kb := fun W => impl_ValidBrake d f W
  have ki := fun p q r W => impl_within p q r W
  have ks := fun W => impl_isSpeed s W
  cases h1 : trackOk L G n lf lu
  · have h0 := tb_1a (d := d) (f := f) (x := x) (s := s) h1
    obtain ⟨e1, e2⟩ := stops_e (down := down) (by rw [h0]; decide)
    rw [e1, e2, h0]
    rw [h1] at kt
    clear e1 e2 h0 h1
    go_enter Try.func12, Try.ntmps12
    go_wp2_with (first | (go_at_call 26; (with_reducible refine (kt _ (hP.below (by first | exact hB | go_grown))).mono ?_); rintro e w' ⟨rfl, hb⟩; obtain ⟨hc, hf⟩ := bcell hb; have hz : w.heap.size < w'.heap.size := (by have := hb.size; (try simp at this); omega); have hz1 : w.heap.size + 1 < w'.heap.size := (by have := hb.size; (try simp at this); omega); have hB : Below w.heap.size w w' := Below.trans (by go_grown) (hb.mono (by go_size))))
    go_returns
    exact ⟨rfl, hB⟩
  · rw [h1] at kt
    cases h2 : validBrake d f
    · have h0 := tb_1b (x := x) (s := s) h1 h2
      obtain ⟨e1, e2⟩ := stops_e (down := down) (by rw [h0]; decide)
      rw [e1, e2, h0]
      rw [h2] at kb
      clear e1 e2 h0 h1 h2
      go_enter Try.func12, Try.ntmps12
      go_wp2_with (first | (go_at_call 26; (with_reducible refine (kt _ (hP.below (by first | exact hB | go_grown))).mono ?_); rintro e w' ⟨rfl, hb⟩; obtain ⟨hc, hf⟩ := bcell hb; have hz : w.heap.size < w'.heap.size := (by have := hb.size; (try simp at this); omega); have hz1 : w.heap.size + 1 < w'.heap.size := (by have := hb.size; (try simp at this); omega); have hB : Below w.heap.size w w' := Below.trans (by go_grown) (hb.mono (by go_size))) | (go_at_call 27; (with_reducible refine (kb _).mono ?_); rintro e w' ⟨rfl, hb⟩; obtain ⟨hc, hf⟩ := bcell hb; have hz : w.heap.size < w'.heap.size := (by have := hb.size; (try simp at this); omega); have hz1 : w.heap.size + 1 < w'.heap.size := (by have := hb.size; (try simp at this); omega); have hB : Below w.heap.size w w' := Below.trans (by go_grown) (hb.mono (by go_size))))
      go_returns
      exact ⟨rfl, hB⟩
    · rw [h2] at kb
      obtain ⟨n1, n12, hno, hlen⟩ := track_at h1
      have hL : ∀ j, j < n → 1 ≤ L j ∧ L j ≤ 3000000 := fun j hj => ⟨(secs_at hno hj).1, (secs_at hno hj).2.1⟩
      have hG : ∀ j, j < n → 0 ≤ G j ∧ G j ≤ 900 := fun j hj => ⟨(secs_at hno hj).2.2.1, (secs_at hno hj).2.2.2⟩
      have kl := fun W h => impl_length a n c L G lf lu W h n12 hL
      cases h3 : inB x 0 (lenT L n)
      · have h0 := tb_2a (s := s) h1 h2 h3
        obtain ⟨e1, e2⟩ := stops_e (down := down) (by rw [h0]; decide)
        rw [e1, e2, h0]
        generalize lenT L n = T at *
        clear e1 e2 h0 h1 h2 hL hG hno
        go_enter Try.func12, Try.ntmps12
        go_wp2_with (first | (go_at_call 26; (with_reducible refine (kt _ (hP.below (by first | exact hB | go_grown))).mono ?_); rintro e w' ⟨rfl, hb⟩; obtain ⟨hc, hf⟩ := bcell hb; have hz : w.heap.size < w'.heap.size := (by have := hb.size; (try simp at this); omega); have hz1 : w.heap.size + 1 < w'.heap.size := (by have := hb.size; (try simp at this); omega); have hB : Below w.heap.size w w' := Below.trans (by go_grown) (hb.mono (by go_size))) | (go_at_call 27; (with_reducible refine (kb _).mono ?_); rintro e w' ⟨rfl, hb⟩; obtain ⟨hc, hf⟩ := bcell hb; have hz : w.heap.size < w'.heap.size := (by have := hb.size; (try simp at this); omega); have hz1 : w.heap.size + 1 < w'.heap.size := (by have := hb.size; (try simp at this); omega); have hB : Below w.heap.size w w' := Below.trans (by go_grown) (hb.mono (by go_size))) | (go_at_call 29; (with_reducible refine (kl _ (hP.below (by first | exact hB | go_grown))).mono ?_); rintro e w' ⟨rfl, hb⟩; obtain ⟨hc, hf⟩ := bcell hb; have hz : w.heap.size < w'.heap.size := (by have := hb.size; (try simp at this); omega); have hz1 : w.heap.size + 1 < w'.heap.size := (by have := hb.size; (try simp at this); omega); have hB : Below w.heap.size w w' := Below.trans (by go_grown) (hb.mono (by go_size))) | (go_at_call 28; (with_reducible refine (ki _ _ _ _).mono ?_); rintro e w' ⟨rfl, rfl⟩) | (go_at_call 30; (with_reducible refine (ks _).mono ?_); rintro e w' ⟨rfl, rfl⟩))
        go_returns
        exact ⟨rfl, hB⟩
      · cases h4 : inB s 0 15000
        · have h0 := tb_2b h1 h2 h3 h4
          obtain ⟨e1, e2⟩ := stops_e (down := down) (by rw [h0]; decide)
          rw [e1, e2, h0]
          rw [h4] at ks
          generalize lenT L n = T at *
          clear e1 e2 h0 h1 h2 hL hG hno h4
          go_enter Try.func12, Try.ntmps12
          go_wp2_with (first | (go_at_call 26; (with_reducible refine (kt _ (hP.below (by first | exact hB | go_grown))).mono ?_); rintro e w' ⟨rfl, hb⟩; obtain ⟨hc, hf⟩ := bcell hb; have hz : w.heap.size < w'.heap.size := (by have := hb.size; (try simp at this); omega); have hz1 : w.heap.size + 1 < w'.heap.size := (by have := hb.size; (try simp at this); omega); have hB : Below w.heap.size w w' := Below.trans (by go_grown) (hb.mono (by go_size))) | (go_at_call 27; (with_reducible refine (kb _).mono ?_); rintro e w' ⟨rfl, hb⟩; obtain ⟨hc, hf⟩ := bcell hb; have hz : w.heap.size < w'.heap.size := (by have := hb.size; (try simp at this); omega); have hz1 : w.heap.size + 1 < w'.heap.size := (by have := hb.size; (try simp at this); omega); have hB : Below w.heap.size w w' := Below.trans (by go_grown) (hb.mono (by go_size))) | (go_at_call 29; (with_reducible refine (kl _ (hP.below (by first | exact hB | go_grown))).mono ?_); rintro e w' ⟨rfl, hb⟩; obtain ⟨hc, hf⟩ := bcell hb; have hz : w.heap.size < w'.heap.size := (by have := hb.size; (try simp at this); omega); have hz1 : w.heap.size + 1 < w'.heap.size := (by have := hb.size; (try simp at this); omega); have hB : Below w.heap.size w w' := Below.trans (by go_grown) (hb.mono (by go_size))) | (go_at_call 28; (with_reducible refine (ki _ _ _ _).mono ?_); rintro e w' ⟨rfl, rfl⟩) | (go_at_call 30; (with_reducible refine (ks _).mono ?_); rintro e w' ⟨rfl, rfl⟩))
          go_returns
          exact ⟨rfl, hB⟩
        · have h0 := tb_0 h1 h2 h3 h4
          have kg := fun W h => impl_worstGrade a n c L G lf lu down W h n1 n12
          have h2' := h2
          unfold validBrake at h2'
          rw [Bool.and_eq_true, inB_true, inB_true] at h2'
          have h4' := inB_true.1 h4
          obtain ⟨j0, hj, hjj⟩ := worstF_in (G := G) (down := down) n1
          have hgj := hG j0 hj
          rw [← hjj] at hgj
          have kw := fun W => impl_stopWay d f s (worstF G (G 0) down n) down W h2'.2.1 h2'.2.2 hgj.1 hgj.2 h2'.1.1 h2'.1.2 h4'.1 h4'.2
          rw [h4] at ks
          have hP0 := hP
          by_cases h5 : forceV f (worstF G (G 0) down n) down ≤ 0
          · obtain ⟨e1, e2⟩ := stops_3 (down := down) h0 h5
            rw [e1, e2]
            rw [if_pos h5, decide_eq_false (show ¬ 0 < forceV f (worstF G (G 0) down n) down by omega)] at kw
            generalize lenT L n = T at *
            generalize worstF G (G 0) down n = y at *
            clear e1 e2 h0 h1 h2 hL hG hno h4 hgj hj hjj h5 h2' h4'
            go_enter Try.func12, Try.ntmps12
            go_wp2_with (first | (go_at_call 26; (with_reducible refine (kt _ (hP.below (by first | exact hB | go_grown))).mono ?_); rintro e w' ⟨rfl, hb⟩; obtain ⟨hc, hf⟩ := bcell hb; have hz : w.heap.size < w'.heap.size := (by have := hb.size; (try simp at this); omega); have hz1 : w.heap.size + 1 < w'.heap.size := (by have := hb.size; (try simp at this); omega); have hB : Below w.heap.size w w' := Below.trans (by go_grown) (hb.mono (by go_size))) | (go_at_call 27; (with_reducible refine (kb _).mono ?_); rintro e w' ⟨rfl, hb⟩; obtain ⟨hc, hf⟩ := bcell hb; have hz : w.heap.size < w'.heap.size := (by have := hb.size; (try simp at this); omega); have hz1 : w.heap.size + 1 < w'.heap.size := (by have := hb.size; (try simp at this); omega); have hB : Below w.heap.size w w' := Below.trans (by go_grown) (hb.mono (by go_size))) | (go_at_call 29; (with_reducible refine (kl _ (hP.below (by first | exact hB | go_grown))).mono ?_); rintro e w' ⟨rfl, hb⟩; obtain ⟨hc, hf⟩ := bcell hb; have hz : w.heap.size < w'.heap.size := (by have := hb.size; (try simp at this); omega); have hz1 : w.heap.size + 1 < w'.heap.size := (by have := hb.size; (try simp at this); omega); have hB : Below w.heap.size w w' := Below.trans (by go_grown) (hb.mono (by go_size))) | (go_at_call 28; (with_reducible refine (ki _ _ _ _).mono ?_); rintro e w' ⟨rfl, rfl⟩) | (go_at_call 30; (with_reducible refine (ks _).mono ?_); rintro e w' ⟨rfl, rfl⟩))
            have hP1 := hP.below hB
            (refine wp_region_cls (by kernel_rfl) (by kernel_rfl) ?_; (repeat (go_big_quiet_step ((first | (go_at_call 32; exact cls_B (kg _ (hP1.below (Cls.below _)))) | (go_at_call 31; exact cls_B (kw _)))))); refine wpQuiet_nil ?_; rintro _ ⟨u, rfl⟩; have hb := u.below; replace hB := hB.trans (hb.mono hB.size); generalize u.w = w' at *; obtain ⟨hc, hf, hs⟩ := bkeep hb; have hq' := hb.size; have hq := hB.size; have hb' := hb; clear hb)
            go_wp2
            go_returns
            exact ⟨rfl, hB⟩
          · obtain ⟨e1, e2⟩ := stops_0 (down := down) h0 h5
            rw [e1, e2]
            rw [if_neg h5, decide_eq_true (show 0 < forceV f (worstF G (G 0) down n) down by omega)] at kw
            generalize wayV d (forceV f (worstF G (G 0) down n) down) s = V at *
            generalize lenT L n = T at *
            generalize worstF G (G 0) down n = y at *
            clear e1 e2 h0 h1 h2 hL hG hno h4 hgj hj hjj h5 h2' h4'
            go_enter Try.func12, Try.ntmps12
            go_wp2_with (first | (go_at_call 26; (with_reducible refine (kt _ (hP.below (by first | exact hB | go_grown))).mono ?_); rintro e w' ⟨rfl, hb⟩; obtain ⟨hc, hf⟩ := bcell hb; have hz : w.heap.size < w'.heap.size := (by have := hb.size; (try simp at this); omega); have hz1 : w.heap.size + 1 < w'.heap.size := (by have := hb.size; (try simp at this); omega); have hB : Below w.heap.size w w' := Below.trans (by go_grown) (hb.mono (by go_size))) | (go_at_call 27; (with_reducible refine (kb _).mono ?_); rintro e w' ⟨rfl, hb⟩; obtain ⟨hc, hf⟩ := bcell hb; have hz : w.heap.size < w'.heap.size := (by have := hb.size; (try simp at this); omega); have hz1 : w.heap.size + 1 < w'.heap.size := (by have := hb.size; (try simp at this); omega); have hB : Below w.heap.size w w' := Below.trans (by go_grown) (hb.mono (by go_size))) | (go_at_call 29; (with_reducible refine (kl _ (hP.below (by first | exact hB | go_grown))).mono ?_); rintro e w' ⟨rfl, hb⟩; obtain ⟨hc, hf⟩ := bcell hb; have hz : w.heap.size < w'.heap.size := (by have := hb.size; (try simp at this); omega); have hz1 : w.heap.size + 1 < w'.heap.size := (by have := hb.size; (try simp at this); omega); have hB : Below w.heap.size w w' := Below.trans (by go_grown) (hb.mono (by go_size))) | (go_at_call 28; (with_reducible refine (ki _ _ _ _).mono ?_); rintro e w' ⟨rfl, rfl⟩) | (go_at_call 30; (with_reducible refine (ks _).mono ?_); rintro e w' ⟨rfl, rfl⟩))
            have hP1 := hP.below hB
            (refine wp_region_cls (by kernel_rfl) (by kernel_rfl) ?_; (repeat (go_big_quiet_step ((first | (go_at_call 32; exact cls_B (kg _ (hP1.below (Cls.below _)))) | (go_at_call 31; exact cls_B (kw _)))))); refine wpQuiet_nil ?_; rintro _ ⟨u, rfl⟩; have hb := u.below; replace hB := hB.trans (hb.mono hB.size); generalize u.w = w' at *; obtain ⟨hc, hf, hs⟩ := bkeep hb; have hq' := hb.size; have hq := hB.size; have hb' := hb; clear hb)
            go_wp2
            go_returns
            exact ⟨rfl, hB⟩

end Go.Proofs.Ytcnnhklbilcbaaa
