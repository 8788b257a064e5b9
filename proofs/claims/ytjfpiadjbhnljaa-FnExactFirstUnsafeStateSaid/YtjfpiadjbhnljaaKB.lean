/-
  Contracts of functions on brakes, states and doors.
-/
import Derived.Test.YtjfpiadjbhnljaaKA
namespace Go.Proofs.Ytjfpiadjbhnljaa
open Go.RowKit


theorem laws_toState (m : Int) (o : Bool) (a : Bool) (b : Bool) (e : Bool) (w : World) : Calls Try.prog 11 #[.agg #[.int .i64 m, .bool o, .bool a, .bool b, .bool e]] w fun e' w' => e' = .returned (.agg #[.int .i64 m, .bool o, .bool a, .bool b, .bool e]) ∧ Below w.heap.size w w' := by
  go_enter Try.func11, Try.ntmps11
  go_wp2
  go_returns
  exact ⟨rfl, by go_grown⟩

theorem laws_eqState_same (m : Int) (o : Bool) (a : Bool) (b : Bool) (e : Bool) (w : World) : Calls Try.prog 9 #[.agg #[.int .i64 m, .bool o, .bool a, .bool b, .bool e], .agg #[.int .i64 m, .bool o, .bool a, .bool b, .bool e]] w fun e' w' => e' = .returned (.bool true) ∧ Below w.heap.size w w' := by
  go_enter Try.func9, Try.ntmps9
  go_wp2
  go_returns
  exact ⟨rfl, by go_grown⟩

theorem impl_ValidControl (m : Int) (o a b e : Bool) (w : World) : Calls Try.prog 31 #[.agg #[.int .i64 m, .bool o, .bool a, .bool b, .bool e]] w fun e w' => e = .returned (.bool (inB m 0 4)) ∧ Below w.heap.size w w' := by
  go_enter Try.func31, Try.ntmps31
  go_wp2_with (go_at_call 43; go_call impl_isMode as e w' ⟨rfl, rfl⟩)
  go_returns
  exact ⟨rfl, by go_grown⟩

theorem spec_l13Ok (b o : Nat) (m : Int) (w : World) (h0 : w.cell? ⟨b, o, none⟩ = some (.int .i64 m)) : Calls Try.prog 33 #[.pointer (some ⟨b, o, none⟩)] w fun e w' => e = .returned (.bool (inB m 0 4)) ∧ w = w' := by
  go_enter Try.func33, Try.ntmps33
  go_wp2_with (go_at_call 54; go_call spec_l00In as e w' ⟨rfl, rfl⟩)
  go_returns
  exact ⟨rfl, rfl⟩

theorem spec_ValidControl (m : Int) (o a b e : Bool) (w : World) : Calls Try.prog 21 #[.agg #[.int .i64 m, .bool o, .bool a, .bool b, .bool e]] w fun e w' => e = .returned (.bool (inB m 0 4)) ∧ Below w.heap.size w w' := by
  go_enter Try.func21, Try.ntmps21
  go_wp2_with (go_at_call 33; refine (spec_l13Ok _ _ m _ (by simp)).mono ?_; rintro e w' ⟨rfl, rfl⟩)
  go_returns
  exact ⟨rfl, by go_grown⟩

theorem impl_isSafeState (m : Int) (o a b e : Bool) (w : World) : Calls Try.prog 39 #[.agg #[.int .i64 m, .bool o, .bool a, .bool b, .bool e]] w fun e' w' => e' = .returned (.bool (isSafe m o e)) ∧ Below w.heap.size w w' := by
  by_cases h2 : m = 2 <;> by_cases h3 : m = 3 <;> cases o <;> cases e
  all_goals
    first
    | (exfalso; omega)
    | ((try subst h2)
       (try subst h3)
       go_enter Try.func39, Try.ntmps39
       go_wp2
       go_returns
       exact ⟨by simp [isSafe, *], by go_grown⟩)

theorem impl_IsSafeState (m : Int) (o a b e : Bool) (w : World) : Calls Try.prog 26 #[.agg #[.int .i64 m, .bool o, .bool a, .bool b, .bool e]] w fun e' w' => e' = .returned (.bool (inB m 0 4 && isSafe m o e)) ∧ Below w.heap.size w w' := by
  cases hm : inB m 0 4
  all_goals
    go_enter Try.func26, Try.ntmps26
    go_wp2_with (first | (go_at_call 31; go_call impl_ValidControl as e w' ⟨rfl, hb⟩; obtain ⟨hc, hf⟩ := bcell hb; have hz : w.heap.size < w'.heap.size := (by have := hb.size; (try simp at this); omega); have hB : Below w.heap.size w w' := Below.trans (by go_grown) (hb.mono (by go_size))) | (go_at_call 39; go_call impl_isSafeState as e w' ⟨rfl, hb⟩; obtain ⟨hc, hf⟩ := bcell hb; have hz : w.heap.size < w'.heap.size := (by have := hb.size; (try simp at this); omega); have hB : Below w.heap.size w w' := Below.trans (by go_grown) (hb.mono (by go_size))))
    go_returns
    exact ⟨by simp [*], by go_grown⟩

theorem spec_l13Runs (b o : Nat) (m : Int) (w : World) (h0 : w.cell? ⟨b, o, none⟩ = some (.int .i64 m)) : Calls Try.prog 65 #[.pointer (some ⟨b, o, none⟩)] w fun e w' => e = .returned (.bool (decide (m = 2) || decide (m = 3))) ∧ w = w' := by
  by_cases h2 : m = 2
  · subst h2
    go_enter Try.func65, Try.ntmps65
    go_wp2
    go_returns
    exact ⟨by simp, rfl⟩
  · have h2' : (m == 2) = false := by simp [h2]
    by_cases h3 : m = 3
    · subst h3
      go_enter Try.func65, Try.ntmps65
      go_wp2
      go_returns
      exact ⟨by simp, rfl⟩
    · have h3' : (m == 3) = false := by simp [h3]
      go_enter Try.func65, Try.ntmps65
      go_wp2
      go_returns
      exact ⟨by simp [*], rfl⟩

theorem spec_IsSafeState (m : Int) (o a b e : Bool) (w : World) : Calls Try.prog 55 #[.agg #[.int .i64 m, .bool o, .bool a, .bool b, .bool e]] w fun e' w' => e' = .returned (.bool (inB m 0 4 && isSafe m o e)) ∧ Below w.heap.size w w' := by
  have hs : isSafe m o e = (!(decide (m = 2) || decide (m = 3)) || (!o && !e)) := by unfold isSafe; by_cases h2 : m = 2 <;> by_cases h3 : m = 3 <;> simp [h2, h3]
  rw [hs]
  clear hs
  cases hm : inB m 0 4 <;> cases hr : (decide (m = 2) || decide (m = 3)) <;> cases o <;> cases e
  all_goals
    go_enter Try.func55, Try.ntmps55
    go_wp2_with (first | (go_at_call 33; refine (spec_l13Ok _ _ m _ (by simp)).mono ?_; rintro e w' ⟨rfl, rfl⟩) | (go_at_call 65; refine (spec_l13Runs _ _ m _ (by simp)).mono ?_; rintro e w' ⟨rfl, rfl⟩))
    go_returns
    exact ⟨by simp [*], by go_grown⟩

theorem impl_FirstState (w : World) : Calls Try.prog 24 #[] w fun e' w' => e' = .returned (.agg #[.int .i64 0, .bool false, .bool false, .bool false, .bool true]) ∧ Below w.heap.size w w' := by
  go_enter Try.func24, Try.ntmps24
  go_wp2
  go_returns
  exact ⟨rfl, by go_grown⟩

end Go.Proofs.Ytjfpiadjbhnljaa
