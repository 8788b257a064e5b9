/-
  Contracts of functions on brakes, states and doors.
-/
import Derived.Test.YtpmdkadfmieieaaKA
namespace Go.Proofs.Ytpmdkadfmieieaa
open Go.RowKit


theorem laws_eqState_same (m : Int) (o : Bool) (a : Bool) (b : Bool) (e : Bool) (w : World) : Calls Try.prog 8 #[.agg #[.int .i64 m, .bool o, .bool a, .bool b, .bool e], .agg #[.int .i64 m, .bool o, .bool a, .bool b, .bool e]] w fun e' w' => e' = .returned (.bool true) ∧ Below w.heap.size w w' := by
  go_enter Try.func8, Try.ntmps8
  go_wp2
  go_returns
  exact ⟨rfl, by go_grown⟩

theorem impl_ValidBrake (d f : Int) (w : World) : Calls Try.prog 62 #[.agg #[.int .i64 d, .int .i64 f]] w fun e w' => e = .returned (.bool (validBrake d f)) ∧ Below w.heap.size w w' := by
  go_enter Try.func62, Try.ntmps62
  go_wp2_with (go_at_call 71; go_call impl_within as e w' ⟨rfl, rfl⟩)
  all_goals
    go_returns
    exact ⟨by simp [validBrake, *], by go_grown⟩

theorem spec_l11Ok (b o : Nat) (d f : Int) (w : World) (h0 : w.cell? ⟨b, o, none⟩ = some (.int .i64 d)) (h1 : w.cell? ⟨b, o + 1, none⟩ = some (.int .i64 f)) : Calls Try.prog 63 #[.pointer (some ⟨b, o, none⟩)] w fun e w' => e = .returned (.bool (validBrake d f)) ∧ w = w' := by
  go_enter Try.func63, Try.ntmps63
  go_wp2_with (go_at_call 72; go_call spec_l00In as e w' ⟨rfl, rfl⟩)
  all_goals
    go_returns
    exact ⟨by simp [validBrake, *], rfl⟩

theorem spec_ValidBrake (d f : Int) (w : World) : Calls Try.prog 31 #[.agg #[.int .i64 d, .int .i64 f]] w fun e w' => e = .returned (.bool (validBrake d f)) ∧ Below w.heap.size w w' := by
  go_enter Try.func31, Try.ntmps31
  go_wp2_with (go_at_call 63; refine (spec_l11Ok _ _ d f _ (by simp) (by simp)).mono ?_; rintro e w' ⟨rfl, rfl⟩)
  all_goals
    go_returns
    exact ⟨rfl, by go_grown⟩

theorem impl_ValidControl (m : Int) (o a b e : Bool) (w : World) : Calls Try.prog 34 #[.agg #[.int .i64 m, .bool o, .bool a, .bool b, .bool e]] w fun e w' => e = .returned (.bool (inB m 0 4)) ∧ Below w.heap.size w w' := by
  go_enter Try.func34, Try.ntmps34
  go_wp2_with (go_at_call 39; go_call impl_isMode as e w' ⟨rfl, rfl⟩)
  go_returns
  exact ⟨rfl, by go_grown⟩

theorem spec_l13Ok (b o : Nat) (m : Int) (w : World) (h0 : w.cell? ⟨b, o, none⟩ = some (.int .i64 m)) : Calls Try.prog 43 #[.pointer (some ⟨b, o, none⟩)] w fun e w' => e = .returned (.bool (inB m 0 4)) ∧ w = w' := by
  go_enter Try.func43, Try.ntmps43
  go_wp2_with (go_at_call 72; go_call spec_l00In as e w' ⟨rfl, rfl⟩)
  go_returns
  exact ⟨rfl, rfl⟩

theorem spec_ValidControl (m : Int) (o a b e : Bool) (w : World) : Calls Try.prog 15 #[.agg #[.int .i64 m, .bool o, .bool a, .bool b, .bool e]] w fun e w' => e = .returned (.bool (inB m 0 4)) ∧ Below w.heap.size w w' := by
  go_enter Try.func15, Try.ntmps15
  go_wp2_with (go_at_call 43; refine (spec_l13Ok _ _ m _ (by simp)).mono ?_; rintro e w' ⟨rfl, rfl⟩)
  go_returns
  exact ⟨rfl, by go_grown⟩

theorem impl_isSafeState (m : Int) (o a b e : Bool) (w : World) : Calls Try.prog 46 #[.agg #[.int .i64 m, .bool o, .bool a, .bool b, .bool e]] w fun e' w' => e' = .returned (.bool (isSafe m o e)) ∧ Below w.heap.size w w' := by
  by_cases h2 : m = 2 <;> by_cases h3 : m = 3 <;> cases o <;> cases e
  all_goals
    first
    | (exfalso; omega)
    | ((try subst h2)
       (try subst h3)
       go_enter Try.func46, Try.ntmps46
       go_wp2
       go_returns
       exact ⟨by simp [isSafe, *], by go_grown⟩)

theorem impl_IsSafeState (m : Int) (o a b e : Bool) (w : World) : Calls Try.prog 20 #[.agg #[.int .i64 m, .bool o, .bool a, .bool b, .bool e]] w fun e' w' => e' = .returned (.bool (inB m 0 4 && isSafe m o e)) ∧ Below w.heap.size w w' := by
  cases hm : inB m 0 4
  all_goals
    go_enter Try.func20, Try.ntmps20
    go_wp2_with (first | (go_at_call 34; go_call impl_ValidControl as e w' ⟨rfl, hb⟩; obtain ⟨hc, hf⟩ := bcell hb; have hz : w.heap.size < w'.heap.size := (by have := hb.size; (try simp at this); omega); have hB : Below w.heap.size w w' := Below.trans (by go_grown) (hb.mono (by go_size))) | (go_at_call 46; go_call impl_isSafeState as e w' ⟨rfl, hb⟩; obtain ⟨hc, hf⟩ := bcell hb; have hz : w.heap.size < w'.heap.size := (by have := hb.size; (try simp at this); omega); have hB : Below w.heap.size w w' := Below.trans (by go_grown) (hb.mono (by go_size))))
    go_returns
    exact ⟨by simp [*], by go_grown⟩

theorem impl_FirstState (w : World) : Calls Try.prog 18 #[] w fun e' w' => e' = .returned (.agg #[.int .i64 0, .bool false, .bool false, .bool false, .bool true]) ∧ Below w.heap.size w w' := by
  go_enter Try.func18, Try.ntmps18
  go_wp2
  go_returns
  exact ⟨rfl, by go_grown⟩

end Go.Proofs.Ytpmdkadfmieieaa
