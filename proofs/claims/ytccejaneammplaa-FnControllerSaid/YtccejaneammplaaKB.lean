/-
  Contracts of functions on brakes, states and doors.
-/
import Derived.Test.YtccejaneammplaaKA
namespace Go.Proofs.Ytccejaneammplaa
open Go.RowKit


theorem impl_ValidControl (m : Int) (o a b e : Bool) (w : World) : Calls Try.prog 20 #[.agg #[.int .i64 m, .bool o, .bool a, .bool b, .bool e]] w fun e w' => e = .returned (.bool (inB m 0 4)) ∧ Below w.heap.size w w' := by
  go_enter Try.func20, Try.ntmps20
  go_wp2_with (go_at_call 22; go_call impl_isMode as e w' ⟨rfl, rfl⟩)
  go_returns
  exact ⟨rfl, by go_grown⟩

theorem spec_l13Ok (b o : Nat) (m : Int) (w : World) (h0 : w.cell? ⟨b, o, none⟩ = some (.int .i64 m)) : Calls Try.prog 26 #[.pointer (some ⟨b, o, none⟩)] w fun e w' => e = .returned (.bool (inB m 0 4)) ∧ w = w' := by
  go_enter Try.func26, Try.ntmps26
  go_wp2_with (go_at_call 35; go_call spec_l00In as e w' ⟨rfl, rfl⟩)
  go_returns
  exact ⟨rfl, rfl⟩

theorem spec_ValidControl (m : Int) (o a b e : Bool) (w : World) : Calls Try.prog 10 #[.agg #[.int .i64 m, .bool o, .bool a, .bool b, .bool e]] w fun e w' => e = .returned (.bool (inB m 0 4)) ∧ Below w.heap.size w w' := by
  go_enter Try.func10, Try.ntmps10
  go_wp2_with (go_at_call 26; refine (spec_l13Ok _ _ m _ (by simp)).mono ?_; rintro e w' ⟨rfl, rfl⟩)
  go_returns
  exact ⟨rfl, by go_grown⟩

theorem impl_isSafeState (m : Int) (o a b e : Bool) (w : World) : Calls Try.prog 29 #[.agg #[.int .i64 m, .bool o, .bool a, .bool b, .bool e]] w fun e' w' => e' = .returned (.bool (isSafe m o e)) ∧ Below w.heap.size w w' := by
  by_cases h2 : m = 2 <;> by_cases h3 : m = 3 <;> cases o <;> cases e
  all_goals
    first
    | (exfalso; omega)
    | ((try subst h2)
       (try subst h3)
       go_enter Try.func29, Try.ntmps29
       go_wp2
       go_returns
       exact ⟨by simp [isSafe, *], by go_grown⟩)

theorem impl_IsSafeState (m : Int) (o a b e : Bool) (w : World) : Calls Try.prog 15 #[.agg #[.int .i64 m, .bool o, .bool a, .bool b, .bool e]] w fun e' w' => e' = .returned (.bool (inB m 0 4 && isSafe m o e)) ∧ Below w.heap.size w w' := by
  cases hm : inB m 0 4
  all_goals
    go_enter Try.func15, Try.ntmps15
    go_wp2_with (first | (go_at_call 20; go_call impl_ValidControl as e w' ⟨rfl, hb⟩; obtain ⟨hc, hf⟩ := bcell hb; have hz : w.heap.size < w'.heap.size := (by have := hb.size; (try simp at this); omega); have hB : Below w.heap.size w w' := Below.trans (by go_grown) (hb.mono (by go_size))) | (go_at_call 29; go_call impl_isSafeState as e w' ⟨rfl, hb⟩; obtain ⟨hc, hf⟩ := bcell hb; have hz : w.heap.size < w'.heap.size := (by have := hb.size; (try simp at this); omega); have hB : Below w.heap.size w w' := Below.trans (by go_grown) (hb.mono (by go_size))))
    go_returns
    exact ⟨by simp [*], by go_grown⟩

theorem impl_FirstState (w : World) : Calls Try.prog 13 #[] w fun e' w' => e' = .returned (.agg #[.int .i64 0, .bool false, .bool false, .bool false, .bool true]) ∧ Below w.heap.size w w' := by
  go_enter Try.func13, Try.ntmps13
  go_wp2
  go_returns
  exact ⟨rfl, by go_grown⟩

end Go.Proofs.Ytccejaneammplaa
