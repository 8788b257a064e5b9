/-
  Contracts: valid workers.
-/
import Derived.Test.YtpjmodpneknnhaaDoorKX2
import Derived.Test.YtpjmodpneknnhaaDoorQu
namespace Go.Proofs.YtpjmodpneknnhaaDoor
open Go.RowKit
set_option linter.unusedVariables false
set_option linter.unusedSimpArgs false

def wk1 (i : ByteArray) (f u : Int) : Bool := nameB i && (inB f 0 1440 && (inB u 0 1440 && decide (f < u)))
theorem wkOk_eq (I : Nat → ByteArray) (F U : Nat → Int) (k : Nat) : wkOk I F U k = wk1 (I k) (F k) (U k) := rfl
theorem validW_no {I : Nat → ByteArray} {F U : Nat → Int} {k n : Nat} (h : goodW I F U (k + 1) = false) (hk : k < n) : validW I F U n = false := by
  unfold validW; rw [goodW_no h hk]; rfl
theorem validW_all {I : Nat → ByteArray} {F U : Nat → Int} {n : Nat} (h : goodW I F U n = true) : validW I F U n = decide (n ≤ 12) := by
  unfold validW; rw [h]; rfl

theorem impl_isDayMinute (n : Int) (w : World) : Calls Tryd.prog 82 #[.int .i64 n] w fun e w' => e = .returned (.bool (inB n 0 1440)) ∧ w = w' := by
  go_enter Tryd.func82, Tryd.ntmps82
  go_wp2_with (go_at_call 50; go_call impl_within as e w' ⟨rfl, rfl⟩)
  go_returns
  exact ⟨rfl, rfl⟩

theorem spec_l14Minute (n : Int) (w : World) : Calls Tryd.prog 79 #[.int .i64 n] w fun e w' => e = .returned (.bool (inB n 0 1440)) ∧ w = w' := by
  go_enter Tryd.func79, Tryd.ntmps79
  go_wp2_with (go_at_call 67; go_call spec_l00In as e w' ⟨rfl, rfl⟩)
  go_returns
  exact ⟨rfl, rfl⟩

set_option maxHeartbeats 1000000 in
theorem impl_validWorker (i : ByteArray) (f u : Int) (w : World) (hs : i.size ≤ 9223372036854775807) : Calls Tryd.prog 58 #[.agg #[.string i, .int .i64 f, .int .i64 u]] w fun e w' => e = .returned (.bool (wk1 i f u)) ∧ Below w.heap.size w w' := by
  have kn := fun W => impl_IsName i W hs
  have kf := fun W => impl_isDayMinute f W
  have ku := fun W => impl_isDayMinute u W
  unfold wk1
  cases h1 : nameB i
  · rw [h1] at kn
    go_enter Tryd.func58, Tryd.ntmps58
    go_wp2_with (first | (go_at_call 81; (with_reducible refine (kn _).mono ?_); rintro e w' ⟨rfl, hb⟩; obtain ⟨hc, hf⟩ := bcell hb; have hz : w.heap.size < w'.heap.size := (by have := hb.size; (try simp at this); omega); have hB : Below w.heap.size w w' := Below.trans (by go_grown) (hb.mono (by go_size))))
    go_returns
    exact ⟨rfl, hB⟩
  · rw [h1] at kn
    cases h2 : inB f 0 1440
    · rw [h2] at kf
      go_enter Tryd.func58, Tryd.ntmps58
      go_wp2_with (first | (go_at_call 81; (with_reducible refine (kn _).mono ?_); rintro e w' ⟨rfl, hb⟩; obtain ⟨hc, hf⟩ := bcell hb; have hz : w.heap.size < w'.heap.size := (by have := hb.size; (try simp at this); omega); have hB : Below w.heap.size w w' := Below.trans (by go_grown) (hb.mono (by go_size))) | (go_at_call 82; (with_reducible refine (kf _).mono ?_); rintro e w' ⟨rfl, rfl⟩))
      go_returns
      exact ⟨rfl, hB⟩
    · rw [h2] at kf
      cases h3 : inB u 0 1440
      · rw [h3] at ku
        go_enter Tryd.func58, Tryd.ntmps58
        go_wp2_with (first | (go_at_call 81; (with_reducible refine (kn _).mono ?_); rintro e w' ⟨rfl, hb⟩; obtain ⟨hc, hf⟩ := bcell hb; have hz : w.heap.size < w'.heap.size := (by have := hb.size; (try simp at this); omega); have hB : Below w.heap.size w w' := Below.trans (by go_grown) (hb.mono (by go_size))) | (go_at_call 82; (with_reducible refine (kf _).mono ?_); rintro e w' ⟨rfl, rfl⟩) | (go_at_call 82; (with_reducible refine (ku _).mono ?_); rintro e w' ⟨rfl, rfl⟩))
        go_returns
        exact ⟨rfl, hB⟩
      · rw [h3] at ku
        go_enter Tryd.func58, Tryd.ntmps58
        go_wp2_with (first | (go_at_call 81; (with_reducible refine (kn _).mono ?_); rintro e w' ⟨rfl, hb⟩; obtain ⟨hc, hf⟩ := bcell hb; have hz : w.heap.size < w'.heap.size := (by have := hb.size; (try simp at this); omega); have hB : Below w.heap.size w w' := Below.trans (by go_grown) (hb.mono (by go_size))) | (go_at_call 82; (with_reducible refine (kf _).mono ?_); rintro e w' ⟨rfl, rfl⟩) | (go_at_call 82; (with_reducible refine (ku _).mono ?_); rintro e w' ⟨rfl, rfl⟩))
        go_returns
        exact ⟨rfl, hB⟩

set_option maxHeartbeats 2000000 in
theorem spec_l14Worker (b o : Nat) (i : ByteArray) (f u : Int) (w : World) (hs : i.size ≤ 9223372036854775807) (c0 : w.cell? ⟨b, o, none⟩ = some (.string i)) (c1 : w.cell? ⟨b, o + 1, none⟩ = some (.int .i64 f)) (c2 : w.cell? ⟨b, o + 2, none⟩ = some (.int .i64 u)) :
    Calls Tryd.prog 56 #[.pointer (some ⟨b, o, none⟩)] w fun e w' => e = .returned (.bool (wk1 i f u)) ∧ Below w.heap.size w w' := by
  have kn := fun W => spec_l01Name i W hs
  have kf := fun W => spec_l14Minute f W
  have ku := fun W => spec_l14Minute u W
  unfold wk1
  have hB := Below.refl w.heap.size w
  have hb1 : b < w.heap.size := World.block_lt_of_cell? w _ c0
  cases h1 : nameB i
  · rw [h1] at kn
    go_enter Tryd.func56, Tryd.ntmps56
    go_wp2
    (refine wp_region_cls (by kernel_rfl) (by kernel_rfl) ?_; (repeat (go_big_quiet_step ((go_at_call 78; exact cls_S (kn _))))); refine wpQuiet_nil ?_; rintro _ ⟨u, rfl⟩; have hb := u.below; replace hB := hB.trans (hb.mono hB.size); generalize u.w = w' at *; obtain ⟨hc, hf, hs⟩ := bkeep hb; have hq' := hb.size; have hq := hB.size; have hb' := hb; clear hb)
    go_wp2
    go_returns
    exact ⟨rfl, hB⟩
  · rw [h1] at kn
    cases h2 : inB f 0 1440
    · rw [h2] at kf
      go_enter Tryd.func56, Tryd.ntmps56
      go_wp2
      (refine wp_region_cls (by kernel_rfl) (by kernel_rfl) ?_; (repeat (go_big_quiet_step ((first | (go_at_call 78; exact cls_S (kn _)) | (go_at_call 79; with_reducible exact cls_S (kf _)))))); refine wpQuiet_nil ?_; rintro _ ⟨u, rfl⟩; have hb := u.below; replace hB := hB.trans (hb.mono hB.size); generalize u.w = w' at *; obtain ⟨hc, hf, hs⟩ := bkeep hb; have hq' := hb.size; have hq := hB.size; have hb' := hb; clear hb)
      go_wp2
      go_returns
      exact ⟨rfl, hB⟩
    · rw [h2] at kf
      cases h3 : inB u 0 1440
      · rw [h3] at ku
        go_enter Tryd.func56, Tryd.ntmps56
        go_wp2
        (refine wp_region_cls (by kernel_rfl) (by kernel_rfl) ?_; (repeat (go_big_quiet_step ((first | (go_at_call 78; exact cls_S (kn _)) | (go_at_call 79; with_reducible exact cls_S (kf _)) | (go_at_call 79; with_reducible exact cls_S (ku _)))))); refine wpQuiet_nil ?_; rintro _ ⟨u, rfl⟩; have hb := u.below; replace hB := hB.trans (hb.mono hB.size); generalize u.w = w' at *; obtain ⟨hc, hf, hs⟩ := bkeep hb; have hq' := hb.size; have hq := hB.size; have hb' := hb; clear hb)
        go_wp2
        go_returns
        exact ⟨rfl, hB⟩
      · rw [h3] at ku
        go_enter Tryd.func56, Tryd.ntmps56
        go_wp2
        (refine wp_region_cls (by kernel_rfl) (by kernel_rfl) ?_; (repeat (go_big_quiet_step ((first | (go_at_call 78; exact cls_S (kn _)) | (go_at_call 79; with_reducible exact cls_S (kf _)) | (go_at_call 79; with_reducible exact cls_S (ku _)))))); refine wpQuiet_nil ?_; rintro _ ⟨u, rfl⟩; have hb := u.below; replace hB := hB.trans (hb.mono hB.size); generalize u.w = w' at *; obtain ⟨hc, hf, hs⟩ := bkeep hb; have hq' := hb.size; have hq := hB.size; have hb' := hb; clear hb)
        go_wp2
        go_returns
        exact ⟨rfl, hB⟩

end Go.Proofs.YtpjmodpneknnhaaDoor
