/-
  Contracts of more functions on brakes, states and doors.
-/
import Derived.Test.YtpmdkadfmieieaaKB
import Derived.Test.YtpmdkadfmieieaaQt
namespace Go.Proofs.Ytpmdkadfmieieaa
open Go.RowKit
set_option linter.unusedVariables false
set_option linter.unusedSimpArgs false


theorem impl_sign (b : Bool) (c : ByteArray) (w : World) : Calls Try.prog 67 #[.bool b, .string c] w fun e w' => e = .returned (.string (sgn b c)) ∧ w = w' := by
  cases b
  all_goals
    go_enter Try.func67, Try.ntmps67
    go_wp2
    go_returns
    exact ⟨rfl, rfl⟩

theorem spec_l13Bit (b : Bool) (c : ByteArray) (w : World) : Calls Try.prog 65 #[.bool b, .string c] w fun e w' => e = .returned (.string (sgn b c)) ∧ w = w' := by
  cases b
  all_goals
    go_enter Try.func65, Try.ntmps65
    go_wp2
    go_returns
    exact ⟨rfl, rfl⟩

theorem impl_StateText (m : Int) (o a b e : Bool) (w : World) : Calls Try.prog 35 #[.agg #[.int .i64 m, .bool o, .bool a, .bool b, .bool e]] w fun e' w' => e' = .returned (.string (if inB m 0 4 = true then stateText m o a b e else ⟨#[]⟩)) ∧ Below w.heap.size w w' := by
  cases hm : inB m 0 4
  · go_enter Try.func35, Try.ntmps35
    go_wp2_with (go_at_call 34; go_call impl_ValidControl as e w' ⟨rfl, hb⟩; obtain ⟨hc, hf⟩ := bcell hb; have hz : w.heap.size < w'.heap.size := (by have := hb.size; (try simp at this); omega); have hB : Below w.heap.size w w' := Below.trans (by go_grown) (hb.mono (by go_size)))
    go_returns
    exact ⟨by simp [*]; try rfl, by go_grown⟩
  · obtain ⟨a1, a2, a3, a4, a5⟩ := stateText_adds (P := Try.prog) m o a b e
    go_enter Try.func35, Try.ntmps35
    go_wp2_with (go_at_call 34; go_call impl_ValidControl as e w' ⟨rfl, hb⟩; obtain ⟨hc, hf⟩ := bcell hb; have hz : w.heap.size < w'.heap.size := (by have := hb.size; (try simp at this); omega); have hB : Below w.heap.size w w' := Below.trans (by go_grown) (hb.mono (by go_size)))
    (refine wp_region_cls (by kernel_rfl) (by kernel_rfl) ?_; (repeat (go_big_quiet_step ((first | (go_at_call 12; exact cls_B (impl_ModeName _ _)) | (go_at_call 67; exact cls_S (impl_sign _ _ _)))))); refine wpQuiet_nil ?_; rintro _ ⟨u, rfl⟩; have hb := u.below; generalize u.w = w' at *; obtain ⟨hc, hf⟩ := bcell hb; have hz : w.heap.size < w'.heap.size := (by have := hb.size; (try simp at this); omega); have hB : Below w.heap.size w w' := Below.trans (by go_grown) (hb.mono (by go_size)))
    go_wp2
    go_returns
    exact ⟨by simp [*]; try rfl, by go_grown⟩

end Go.Proofs.Ytpmdkadfmieieaa
