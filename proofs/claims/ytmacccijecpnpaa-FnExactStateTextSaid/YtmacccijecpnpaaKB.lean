/-
  Contracts of functions on brakes, states and doors.
-/
import Derived.Test.YtmacccijecpnpaaKA
namespace Go.Proofs.Ytmacccijecpnpaa
open Go.RowKit


theorem laws_toBrake (d : Int) (f : Int) (w : World) : Calls Try.prog 16 #[.agg #[.int .i64 d, .int .i64 f]] w fun e w' => e = .returned (.agg #[.int .i64 d, .int .i64 f]) ∧ Below w.heap.size w w' := by
  go_enter Try.func16, Try.ntmps16
  go_wp2
  go_returns
  exact ⟨rfl, by go_grown⟩

theorem laws_toState (m : Int) (o : Bool) (a : Bool) (b : Bool) (e : Bool) (w : World) : Calls Try.prog 21 #[.agg #[.int .i64 m, .bool o, .bool a, .bool b, .bool e]] w fun e' w' => e' = .returned (.agg #[.int .i64 m, .bool o, .bool a, .bool b, .bool e]) ∧ Below w.heap.size w w' := by
  go_enter Try.func21, Try.ntmps21
  go_wp2
  go_returns
  exact ⟨rfl, by go_grown⟩

theorem laws_toDoor (p : Int) (k : Int) (r : Int) (w : World) : Calls Try.prog 43 #[.agg #[.int .i64 p, .int .i64 k, .int .i64 r]] w fun e w' => e = .returned (.agg #[.int .i64 p, .int .i64 k, .int .i64 r]) ∧ Below w.heap.size w w' := by
  go_enter Try.func43, Try.ntmps43
  go_wp2
  go_returns
  exact ⟨rfl, by go_grown⟩

theorem laws_eqBrake_same (d : Int) (f : Int) (w : World) : Calls Try.prog 50 #[.agg #[.int .i64 d, .int .i64 f], .agg #[.int .i64 d, .int .i64 f]] w fun e w' => e = .returned (.bool true) ∧ Below w.heap.size w w' := by
  go_enter Try.func50, Try.ntmps50
  go_wp2
  go_returns
  exact ⟨rfl, by go_grown⟩

theorem laws_eqState_same (m : Int) (o : Bool) (a : Bool) (b : Bool) (e : Bool) (w : World) : Calls Try.prog 31 #[.agg #[.int .i64 m, .bool o, .bool a, .bool b, .bool e], .agg #[.int .i64 m, .bool o, .bool a, .bool b, .bool e]] w fun e' w' => e' = .returned (.bool true) ∧ Below w.heap.size w w' := by
  go_enter Try.func31, Try.ntmps31
  go_wp2
  go_returns
  exact ⟨rfl, by go_grown⟩

theorem impl_ValidBrake (d f : Int) (w : World) : Calls Try.prog 17 #[.agg #[.int .i64 d, .int .i64 f]] w fun e w' => e = .returned (.bool (validBrake d f)) ∧ Below w.heap.size w w' := by
  go_enter Try.func17, Try.ntmps17
  go_wp2_with (go_at_call 54; go_call impl_within as e w' ⟨rfl, rfl⟩)
  all_goals
    go_returns
    exact ⟨by simp [validBrake, *], by go_grown⟩

theorem spec_l11Ok (b o : Nat) (d f : Int) (w : World) (h0 : w.cell? ⟨b, o, none⟩ = some (.int .i64 d)) (h1 : w.cell? ⟨b, o + 1, none⟩ = some (.int .i64 f)) : Calls Try.prog 53 #[.pointer (some ⟨b, o, none⟩)] w fun e w' => e = .returned (.bool (validBrake d f)) ∧ w = w' := by
  go_enter Try.func53, Try.ntmps53
  go_wp2_with (go_at_call 55; go_call spec_l00In as e w' ⟨rfl, rfl⟩)
  all_goals
    go_returns
    exact ⟨by simp [validBrake, *], rfl⟩

theorem spec_ValidBrake (d f : Int) (w : World) : Calls Try.prog 15 #[.agg #[.int .i64 d, .int .i64 f]] w fun e w' => e = .returned (.bool (validBrake d f)) ∧ Below w.heap.size w w' := by
  go_enter Try.func15, Try.ntmps15
  go_wp2_with (go_at_call 53; refine (spec_l11Ok _ _ d f _ (by simp) (by simp)).mono ?_; rintro e w' ⟨rfl, rfl⟩)
  all_goals
    go_returns
    exact ⟨rfl, by go_grown⟩

theorem impl_ValidControl (m : Int) (o a b e : Bool) (w : World) : Calls Try.prog 22 #[.agg #[.int .i64 m, .bool o, .bool a, .bool b, .bool e]] w fun e w' => e = .returned (.bool (inB m 0 4)) ∧ Below w.heap.size w w' := by
  go_enter Try.func22, Try.ntmps22
  go_wp2_with (go_at_call 57; go_call impl_isMode as e w' ⟨rfl, rfl⟩)
  go_returns
  exact ⟨rfl, by go_grown⟩

theorem spec_l13Ok (b o : Nat) (m : Int) (w : World) (h0 : w.cell? ⟨b, o, none⟩ = some (.int .i64 m)) : Calls Try.prog 56 #[.pointer (some ⟨b, o, none⟩)] w fun e w' => e = .returned (.bool (inB m 0 4)) ∧ w = w' := by
  go_enter Try.func56, Try.ntmps56
  go_wp2_with (go_at_call 55; go_call spec_l00In as e w' ⟨rfl, rfl⟩)
  go_returns
  exact ⟨rfl, rfl⟩

theorem spec_ValidControl (m : Int) (o a b e : Bool) (w : World) : Calls Try.prog 20 #[.agg #[.int .i64 m, .bool o, .bool a, .bool b, .bool e]] w fun e w' => e = .returned (.bool (inB m 0 4)) ∧ Below w.heap.size w w' := by
  go_enter Try.func20, Try.ntmps20
  go_wp2_with (go_at_call 56; refine (spec_l13Ok _ _ m _ (by simp)).mono ?_; rintro e w' ⟨rfl, rfl⟩)
  go_returns
  exact ⟨rfl, by go_grown⟩

theorem impl_isSafeState (m : Int) (o a b e : Bool) (w : World) : Calls Try.prog 63 #[.agg #[.int .i64 m, .bool o, .bool a, .bool b, .bool e]] w fun e' w' => e' = .returned (.bool (isSafe m o e)) ∧ Below w.heap.size w w' := by
  by_cases h2 : m = 2 <;> by_cases h3 : m = 3 <;> cases o <;> cases e
  all_goals
    first
    | (exfalso; omega)
    | ((try subst h2)
       (try subst h3)
       go_enter Try.func63, Try.ntmps63
       go_wp2
       go_returns
       exact ⟨by simp [isSafe, *], by go_grown⟩)

theorem impl_IsSafeState (m : Int) (o a b e : Bool) (w : World) : Calls Try.prog 28 #[.agg #[.int .i64 m, .bool o, .bool a, .bool b, .bool e]] w fun e' w' => e' = .returned (.bool (inB m 0 4 && isSafe m o e)) ∧ Below w.heap.size w w' := by
  cases hm : inB m 0 4
  all_goals
    go_enter Try.func28, Try.ntmps28
    go_wp2_with (first | (go_at_call 22; go_call impl_ValidControl as e w' ⟨rfl, hb⟩; obtain ⟨hc, hf⟩ := bcell hb; have hz : w.heap.size < w'.heap.size := (by have := hb.size; (try simp at this); omega); have hB : Below w.heap.size w w' := Below.trans (by go_grown) (hb.mono (by go_size))) | (go_at_call 63; go_call impl_isSafeState as e w' ⟨rfl, hb⟩; obtain ⟨hc, hf⟩ := bcell hb; have hz : w.heap.size < w'.heap.size := (by have := hb.size; (try simp at this); omega); have hB : Below w.heap.size w w' := Below.trans (by go_grown) (hb.mono (by go_size))))
    go_returns
    exact ⟨by simp [*], by go_grown⟩

theorem spec_l13Runs (b o : Nat) (m : Int) (w : World) (h0 : w.cell? ⟨b, o, none⟩ = some (.int .i64 m)) : Calls Try.prog 62 #[.pointer (some ⟨b, o, none⟩)] w fun e w' => e = .returned (.bool (decide (m = 2) || decide (m = 3))) ∧ w = w' := by
  by_cases h2 : m = 2
  · subst h2
    go_enter Try.func62, Try.ntmps62
    go_wp2
    go_returns
    exact ⟨by simp, rfl⟩
  · have h2' : (m == 2) = false := by simp [h2]
    by_cases h3 : m = 3
    · subst h3
      go_enter Try.func62, Try.ntmps62
      go_wp2
      go_returns
      exact ⟨by simp, rfl⟩
    · have h3' : (m == 3) = false := by simp [h3]
      go_enter Try.func62, Try.ntmps62
      go_wp2
      go_returns
      exact ⟨by simp [*], rfl⟩

theorem spec_IsSafeState (m : Int) (o a b e : Bool) (w : World) : Calls Try.prog 27 #[.agg #[.int .i64 m, .bool o, .bool a, .bool b, .bool e]] w fun e' w' => e' = .returned (.bool (inB m 0 4 && isSafe m o e)) ∧ Below w.heap.size w w' := by
  have hs : isSafe m o e = (!(decide (m = 2) || decide (m = 3)) || (!o && !e)) := by unfold isSafe; by_cases h2 : m = 2 <;> by_cases h3 : m = 3 <;> simp [h2, h3]
  rw [hs]
  clear hs
  cases hm : inB m 0 4 <;> cases hr : (decide (m = 2) || decide (m = 3)) <;> cases o <;> cases e
  all_goals
    go_enter Try.func27, Try.ntmps27
    go_wp2_with (first | (go_at_call 56; refine (spec_l13Ok _ _ m _ (by simp)).mono ?_; rintro e w' ⟨rfl, rfl⟩) | (go_at_call 62; refine (spec_l13Runs _ _ m _ (by simp)).mono ?_; rintro e w' ⟨rfl, rfl⟩))
    go_returns
    exact ⟨by simp [*], by go_grown⟩

theorem impl_FirstState (w : World) : Calls Try.prog 30 #[] w fun e' w' => e' = .returned (.agg #[.int .i64 0, .bool false, .bool false, .bool false, .bool true]) ∧ Below w.heap.size w w' := by
  go_enter Try.func30, Try.ntmps30
  go_wp2
  go_returns
  exact ⟨rfl, by go_grown⟩

theorem spec_FirstState (w : World) : Calls Try.prog 29 #[] w fun e' w' => e' = .returned (.agg #[.int .i64 0, .bool false, .bool false, .bool false, .bool true]) ∧ Below w.heap.size w w' := by
  go_enter Try.func29, Try.ntmps29
  go_wp2
  go_returns
  exact ⟨rfl, by go_grown⟩

end Go.Proofs.Ytmacccijecpnpaa
