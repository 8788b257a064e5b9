/-
  Contracts: the text of a brake; the walk of its law.
-/
import Derived.Test.YteccpafoojkmjaaGreatDoorDci
import Derived.Test.YteccpafoojkmjaaGreatDoorM1
namespace Go.Proofs.YteccpafoojkmjaaGreatDoor
open Go.RowKit
open Go.Lib (itoa)
set_option linter.unusedVariables false
set_option linter.unusedSimpArgs false

def brakeTx (d f : Int) : ByteArray := dtx d ++ ⟨#[43]⟩ ++ dtx f
def brakeText (d f : Int) : ByteArray := if validBrake d f = true then brakeTx d f else ⟨#[]⟩
theorem validBrake_bd' {d f : Int} (h : validBrake d f = true) : 0 ≤ d ∧ d ≤ 100 ∧ 1 ≤ f ∧ f ≤ 10000 := by
  unfold validBrake at h; rw [Bool.and_eq_true, inB_true, inB_true] at h; omega
theorem brake_adds (P : Program) {d f : Int} (h0 : 0 ≤ d) (h1 : d ≤ 100) (h2 : 1 ≤ f) (h3 : f ≤ 10000) :
    (∀ w, (Op.stringOp .add (dtx d) ⟨#[43]⟩).run P w = .ok (.string (dtx d ++ ⟨#[43]⟩)) w) ∧ (∀ w, (Op.stringOp .add (dtx d ++ ⟨#[43]⟩) (dtx f)).run P w = .ok (.string (dtx d ++ ⟨#[43]⟩ ++ dtx f)) w) := by
  have a := dtx_size (n := d) (by omega) (by omega)
  have b := dtx_size (n := f) (by omega) (by omega)
  have c : (⟨#[43]⟩ : ByteArray).size = 1 := rfl
  refine ⟨str_add (by omega), str_add ?_⟩
  rw [ByteArray.size_append]; omega

set_option maxHeartbeats 1000000 in
theorem impl_BrakeText (d f : Int) (w : World) (hT : PowAt w) : Calls Tryz.prog 14 #[.agg #[.int .i64 d, .int .i64 f]] w fun e w' => e = .returned (.string (brakeText d f)) ∧ Below w.heap.size w w' := by
  have kb := fun W => impl_ValidBrake d f W
  unfold brakeText
  cases h : validBrake d f
  · rw [h] at kb
    go_enter Tryz.func14, Tryz.ntmps14
    go_wp2_with (go_at_call 18; (with_reducible refine (kb _).mono ?_); rintro e w' ⟨rfl, hb⟩; obtain ⟨hc, hf⟩ := bcell hb; have hz : w.heap.size < w'.heap.size := (by have := hb.size; (try simp at this); omega); have hB : Below w.heap.size w w' := Below.trans (by go_grown) (hb.mono (by go_size)))
    go_returns
    exact ⟨rfl, hB⟩
  · obtain ⟨b0, b1, b2, b3⟩ := validBrake_bd' h
    rw [h] at kb
    have kd := fun n W h0 h1 hT => impl_Decimal_t n W h0 h1 hT
    rw [if_pos rfl]
    obtain ⟨a1, a2⟩ := brake_adds Tryz.prog b0 b1 b2 b3
    unfold brakeTx
    generalize dtx d ++ ⟨#[43]⟩ = T1 at *
    generalize T1 ++ dtx f = T2 at *
    go_enter Tryz.func14, Tryz.ntmps14
    go_wp2_with (go_at_call 18; (with_reducible refine (kb _).mono ?_); rintro e w' ⟨rfl, hb⟩; obtain ⟨hc, hf⟩ := bcell hb; have hz : w.heap.size < w'.heap.size := (by have := hb.size; (try simp at this); omega); have hB : Below w.heap.size w w' := Below.trans (by go_grown) (hb.mono (by go_size)))
    have hT1 := hT.below hB
    (refine wp_region_cls (by kernel_rfl) (by kernel_rfl) ?_; (repeat (go_big_quiet_step ((go_at_call 29; exact cls_B (kd _ _ (by omega) (by omega) (hT1.below (Cls.below _))))))); refine wpQuiet_nil ?_; rintro _ ⟨u, rfl⟩; have hb := u.below; replace hB := hB.trans (hb.mono hB.size); generalize u.w = w' at *; obtain ⟨hc, hf, hs⟩ := bkeep hb; have hq' := hb.size; have hq := hB.size; have hb' := hb; clear hb)
    go_wp2
    go_returns
    exact ⟨rfl, hB⟩

end Go.Proofs.YteccpafoojkmjaaGreatDoor
