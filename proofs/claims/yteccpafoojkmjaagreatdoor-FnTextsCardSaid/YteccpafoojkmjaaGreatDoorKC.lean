/-
  Contracts of more functions on brakes, states and doors.
-/
import Derived.Test.YteccpafoojkmjaaGreatDoorM1
namespace Go.Proofs.YteccpafoojkmjaaGreatDoor
open Go.RowKit
set_option linter.unusedVariables false
set_option linter.unusedSimpArgs false


theorem impl_sign (b : Bool) (c : ByteArray) (w : World) : Calls Tryz.prog 34 #[.bool b, .string c] w fun e w' => e = .returned (.string (sgn b c)) ∧ w = w' := by
  cases b
  all_goals
    go_enter Tryz.func34, Tryz.ntmps34
    go_wp2
    go_returns
    exact ⟨rfl, rfl⟩

theorem impl_StateText (m : Int) (o a b e : Bool) (w : World) : Calls Tryz.prog 16 #[.agg #[.int .i64 m, .bool o, .bool a, .bool b, .bool e]] w fun e' w' => e' = .returned (.string (if inB m 0 4 = true then stateText m o a b e else ⟨#[]⟩)) ∧ Below w.heap.size w w' := by
  cases hm : inB m 0 4
  · go_enter Tryz.func16, Tryz.ntmps16
    go_wp2_with (go_at_call 19; go_call impl_ValidControl as e w' ⟨rfl, hb⟩; obtain ⟨hc, hf⟩ := bcell hb; have hz : w.heap.size < w'.heap.size := (by have := hb.size; (try simp at this); omega); have hB : Below w.heap.size w w' := Below.trans (by go_grown) (hb.mono (by go_size)))
    go_returns
    exact ⟨by simp [*]; try rfl, by go_grown⟩
  · obtain ⟨a1, a2, a3, a4, a5⟩ := stateText_adds (P := Tryz.prog) m o a b e
    go_enter Tryz.func16, Tryz.ntmps16
    go_wp2_with (go_at_call 19; go_call impl_ValidControl as e w' ⟨rfl, hb⟩; obtain ⟨hc, hf⟩ := bcell hb; have hz : w.heap.size < w'.heap.size := (by have := hb.size; (try simp at this); omega); have hB : Below w.heap.size w w' := Below.trans (by go_grown) (hb.mono (by go_size)))
    (refine wp_region_cls (by kernel_rfl) (by kernel_rfl) ?_; (repeat (go_big_quiet_step ((first | (go_at_call 33; exact cls_B (impl_ModeName _ _)) | (go_at_call 34; exact cls_S (impl_sign _ _ _)))))); refine wpQuiet_nil ?_; rintro _ ⟨u, rfl⟩; have hb := u.below; generalize u.w = w' at *; obtain ⟨hc, hf⟩ := bcell hb; have hz : w.heap.size < w'.heap.size := (by have := hb.size; (try simp at this); omega); have hB : Below w.heap.size w w' := Below.trans (by go_grown) (hb.mono (by go_size)))
    go_wp2
    go_returns
    exact ⟨by simp [*]; try rfl, by go_grown⟩

end Go.Proofs.YteccpafoojkmjaaGreatDoor
