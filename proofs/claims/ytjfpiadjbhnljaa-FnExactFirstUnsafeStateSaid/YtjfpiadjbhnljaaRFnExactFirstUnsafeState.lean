/-
  The statement 'FnExactFirstUnsafeStateSaid': for every input the law returns true, and each argument reads afterwards as before. No condition. This text lifts the walk 'law_FnExactFirstUnsafeState' to the given row.
-/
import Derived.Test.YtjfpiadjbhnljaaRows
import Derived.Test.YtjfpiadjbhnljaaL28
import Derived.Test.YtjfpiadjbhnljaaOp
import Derived.Handy
import Derived.ProofKit
import Derived.OpenShut
import Derived.ShutString
import Derived.ChangeOld
import Derived.Below
import Derived.Lib.SmallJoins
namespace Go.Proofs.Ytjfpiadjbhnljaa.rowFnExactFirstUnsafeState
open Go.ChangeShapes Go.WideShapes Go.ChangeAt Go.RowKit Go.Joins
open Go.ChangeMaps (open_string shut_string)
set_option linter.unusedVariables false

theorem own : ownKnob Try.prog.godebug = none := by kernel_rfl
theorem laidOut : laidOutB Try.prog = true := by kernel_rfl
theorem cells28 : Try.prog.cellsOf 28 = 5 := by kernel_rfl

set_option maxRecDepth 100000 in
theorem lifted (os : Os) (started : os.Started) (H : Type) (enc : TypeId × Value → H) :
    ReturnsInHanded {} Try.checked os 5 .any (Rows.fnExactFirstUnsafeStateSpec.pre6 enc Try.prog Try.f5 Rows.fnExactFirstUnsafeStateRow.domain false) (Rows.fnExactFirstUnsafeStateSpec.post enc Try.prog Try.f5 false true false false) := by
  refine returnsInHanded_of_change (C := Try.checked) own started (by kernel_rfl) Try.func5
    (ChangeSpec.witness6 (enc := enc) (C := Try.checked) false ⟨#[], #[.agg #[.int .i64 0, .bool false, .bool false, .bool false, .bool false]], []⟩ 8 (by kernel_rfl) (by kernel_rfl) (by kernel_rfl) (by kernel_rfl)) ?_
  intro W base args ds gs before hval0 hW hcnd _
  have hval : ∀ (j : Nat) t v, Try.f5.params[j]? = some t → args[j]? = some v → Value.okWide Try.prog W .any base t v := hval0
  have hW' := hW
  obtain ⟨p, q, hA0, hV, rfl, hfz, hnd⟩ := hW
  have hA : DataW.TrodAll enc Try.prog W 0 (fun _ => true) true Try.f5.params.toList args.toList ds p := hA0
  rw [Try.params5] at hA hval
  obtain ⟨v0, vs0, d0, ds0, p0, q0, hargs, rfl, rfl, h0, r0⟩ := trodAll_cons hA
  obtain ⟨rfl, rfl, rfl⟩ := trodAll_nil r0
  obtain rfl : args = #[v0] := by cases args; simp_all
  obtain ⟨rfl, rfl⟩ := trodVars_none hV
  have k0 := h0
  have lt0 : ∀ x ∈ p0, x.block < W.heap.size := by obtain ⟨m, hm⟩ := k0; exact DataW.trod_lt m _ _ _ hm
  obtain ⟨vs0_, n0, rfl, hl0, hf0⟩ := agg_open Try.underlying28 (by kernel_rfl) cells28 (hval 0 28 v0 rfl rfl) h0
  obtain ⟨c0_0, c0_1, c0_2, c0_3, c0_4, rfl⟩ := list5 hl0
  obtain ⟨y0_0, t0_0⟩ := hf0 0 _ _ rfl rfl
  obtain ⟨y0_1, t0_1⟩ := hf0 1 _ _ rfl rfl
  obtain ⟨y0_2, t0_2⟩ := hf0 2 _ _ rfl rfl
  obtain ⟨y0_3, t0_3⟩ := hf0 3 _ _ rfl rfl
  obtain ⟨y0_4, t0_4⟩ := hf0 4 _ _ rfl rfl
  obtain ⟨a0_0, ea0_0, _, wa0_0⟩ := DataW.trod_int Try.underlying2 t0_0
  simp only [List.cons.injEq, and_true] at ea0_0; subst ea0_0
  obtain ⟨a0_1, ea0_1, _⟩ := DataW.trod_bool Try.underlying4 t0_1
  simp only [List.cons.injEq, and_true] at ea0_1; subst ea0_1
  obtain ⟨a0_2, ea0_2, _⟩ := DataW.trod_bool Try.underlying4 t0_2
  simp only [List.cons.injEq, and_true] at ea0_2; subst ea0_2
  obtain ⟨a0_3, ea0_3, _⟩ := DataW.trod_bool Try.underlying4 t0_3
  simp only [List.cons.injEq, and_true] at ea0_3; subst ea0_3
  obtain ⟨a0_4, ea0_4, _⟩ := DataW.trod_bool Try.underlying4 t0_4
  simp only [List.cons.injEq, and_true] at ea0_4; subst ea0_4
  clear hA0 hval0
  refine (law_FnExactFirstUnsafeState a0_0 a0_1 a0_2 a0_3 a0_4 W ).mono fun e W' ⟨he, bel⟩ => ?_
  subst he
  exact ⟨_, rfl, _, _, _, [], _, [], hW', trodAll_mk1 (shut_bool Try.underlying4 _), (trodAll_cons_mk (Below.trod laidOut (by kernel_rfl) (of_decide_eq_true (by kernel_rfl)) k0 bel lt0) trodAll_mk0), rfl, bel.frame _, fun h => by cases h⟩

/-- THE STATEMENT. -/
theorem proved : Rows.FnExactFirstUnsafeStateSaid :=
  OpenClaim.holds_of_wide 5 Try.f5 rfl rfl rfl rfl rfl rfl rfl ⟨rfl, rfl, rfl, rfl, rfl⟩ rfl rfl rfl rfl rfl (by kernel_rfl) Try.func5 (by kernel_rfl)
    (of_decide_eq_true (by kernel_rfl)) (by unfold Func.isWrapper; first | (rw [if_pos (by decide +kernel)]; kernel_rfl) | (rw [if_neg (by decide +kernel)]; exact ⟨rfl, rfl⟩))
    (fun os started H enc _ => lifted os started H enc)
#print axioms proved
end Go.Proofs.Ytjfpiadjbhnljaa.rowFnExactFirstUnsafeState
