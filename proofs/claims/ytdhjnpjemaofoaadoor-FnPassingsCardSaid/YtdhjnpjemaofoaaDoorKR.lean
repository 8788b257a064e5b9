/-
  Contracts: copies, comparisons and marks of slices of structs.
-/
import Derived.Test.YtdhjnpjemaofoaaDoorKS
import Derived.Test.YtdhjnpjemaofoaaDoorM1
import Derived.Laws.MakeOwn
namespace Go.Proofs.YtdhjnpjemaofoaaDoor
open Go.RowKit
set_option linter.unusedVariables false
set_option linter.unusedSimpArgs false

theorem row_next_Passing (S : Nat → Int) (T : Nat → Int) (M : Nat → Value) (k q : Nat) : (if q = k * 2 + 1 then .int .i64 (T k) else (if q = k * 2 then .int .i64 (S k) else if q < 2 * k then psV S T q else M q)) = if q < 2 * (k + 1) then psV S T q else M q := by
  by_cases e1 : q = k * 2 + 1
  · subst e1; rw [if_pos rfl, if_pos (by omega), psV_1]
  by_cases e0 : q = k * 2
  · subst e0; rw [if_neg (by omega), if_pos rfl, if_pos (by omega), psV_0]
  rw [if_neg e1, if_neg e0]
  by_cases h : q < 2 * k
  · rw [if_pos h, if_pos (by omega)]
  · rw [if_neg h, if_neg (by omega)]
theorem row_next_Door (P : Nat → Int) (K : Nat → Int) (R : Nat → Int) (M : Nat → Value) (k q : Nat) : (if q = k * 3 + 2 then .int .i64 (R k) else (if q = k * 3 + 1 then .int .i64 (K k) else (if q = k * 3 then .int .i64 (P k) else if q < 3 * k then drV P K R q else M q))) = if q < 3 * (k + 1) then drV P K R q else M q := by
  by_cases e2 : q = k * 3 + 2
  · subst e2; rw [if_pos rfl, if_pos (by omega), drV_2]
  by_cases e1 : q = k * 3 + 1
  · subst e1; rw [if_neg (by omega), if_pos rfl, if_pos (by omega), drV_1]
  by_cases e0 : q = k * 3
  · subst e0; rw [if_neg (by omega), if_neg (by omega), if_pos rfl, if_pos (by omega), drV_0]
  rw [if_neg e2, if_neg e1, if_neg e0]
  by_cases h : q < 3 * k
  · rw [if_pos h, if_pos (by omega)]
  · rw [if_neg h, if_neg (by omega)]

end Go.Proofs.YtdhjnpjemaofoaaDoor
