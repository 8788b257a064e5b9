/-
  The statement 'FnExactFirstUnsafeSaid': for every input the law returns true, and each argument reads afterwards as before. No condition. This text lifts the walk 'law_FnExactFirstUnsafe' to the given row.
-/
import Derived.Test.YtaagfkldcdebcaaRows
import Derived.Test.YtaagfkldcdebcaaL27
import Derived.Test.YtaagfkldcdebcaaOs
import Derived.Test.YtaagfkldcdebcaaOq
import Derived.Handy
import Derived.ProofKit
import Derived.OpenShut
import Derived.ShutString
import Derived.ChangeOld
import Derived.Below
import Derived.Lib.SmallJoins
namespace Go.Proofs.Ytaagfkldcdebcaa.rowFnExactFirstUnsafe
open Go.ChangeShapes Go.WideShapes Go.ChangeAt Go.RowKit Go.Joins
open Go.ChangeMaps (open_string shut_string)
set_option linter.unusedVariables false

theorem own : ownKnob Try.prog.godebug = none := by kernel_rfl
theorem laidOut : laidOutB Try.prog = true := by kernel_rfl
theorem cells26 : Try.prog.cellsOf 26 = 2 := by kernel_rfl
theorem cells40 : Try.prog.cellsOf 40 = 4 := by kernel_rfl

set_option maxRecDepth 100000 in
theorem lifted (os : Os) (started : os.Started) (H : Type) (enc : TypeId × Value → H) :
    ReturnsInHanded {} Try.checked os 5 .any (Rows.fnExactFirstUnsafeSpec.pre6 enc Try.prog Try.f5 Rows.fnExactFirstUnsafeRow.domain false) (Rows.fnExactFirstUnsafeSpec.post enc Try.prog Try.f5 false true false false) := by
  refine returnsInHanded_of_change (C := Try.checked) own started (by kernel_rfl) Try.func5
    (ChangeSpec.witness6 (enc := enc) (C := Try.checked) false ⟨#[], #[.agg #[.slice none 0 0, .int .i64 0, .int .i64 0], .agg #[.int .i64 0, .int .i64 0], .agg #[.int .i64 0, .int .i64 0, .int .i64 0, .int .i64 0], .bool false], []⟩ 8 (by kernel_rfl) (by kernel_rfl) (by kernel_rfl) (by kernel_rfl)) ?_
  intro W base args ds gs before hval0 hW hcnd _
  have hval : ∀ (j : Nat) t v, Try.f5.params[j]? = some t → args[j]? = some v → Value.okWide Try.prog W .any base t v := hval0
  have hW' := hW
  obtain ⟨p, q, hA0, hV, rfl, hfz, hnd⟩ := hW
  have hA : DataW.TrodAll enc Try.prog W 0 (fun _ => true) true Try.f5.params.toList args.toList ds p := hA0
  rw [Try.params5] at hA hval
  obtain ⟨v0, vs0, d0, ds0, p0, q0, hargs, rfl, rfl, h0, r0⟩ := trodAll_cons hA
  obtain ⟨v1, vs1, d1, ds1, p1, q1, rfl, rfl, rfl, h1, r1⟩ := trodAll_cons r0
  obtain ⟨v2, vs2, d2, ds2, p2, q2, rfl, rfl, rfl, h2, r2⟩ := trodAll_cons r1
  obtain ⟨v3, vs3, d3, ds3, p3, q3, rfl, rfl, rfl, h3, r3⟩ := trodAll_cons r2
  obtain ⟨rfl, rfl, rfl⟩ := trodAll_nil r3
  obtain rfl : args = #[v0, v1, v2, v3] := by cases args; simp_all
  obtain ⟨rfl, rfl⟩ := trodVars_none hV
  have k0 := h0
  have lt0 : ∀ x ∈ p0, x.block < W.heap.size := by obtain ⟨m, hm⟩ := k0; exact DataW.trod_lt m _ _ _ hm
  have k1 := h1
  have lt1 : ∀ x ∈ p1, x.block < W.heap.size := by obtain ⟨m, hm⟩ := k1; exact DataW.trod_lt m _ _ _ hm
  have k2 := h2
  have lt2 : ∀ x ∈ p2, x.block < W.heap.size := by obtain ⟨m, hm⟩ := k2; exact DataW.trod_lt m _ _ _ hm
  have k3 := h3
  have lt3 : ∀ x ∈ p3, x.block < W.heap.size := by obtain ⟨m, hm⟩ := k3; exact DataW.trod_lt m _ _ _ hm
  obtain ⟨a0, len0, cap0, s0, t0, lf0, lu0, rfl, wz0, wl0⟩ := track_open Try.underlying24 (by kernel_rfl) (by kernel_rfl) Try.underlying22 Try.underlying2 Try.underlying2 Try.underlying103 (by kernel_rfl) (by kernel_rfl) Try.underlying2 Try.underlying2 (hval 0 24 v0 rfl rfl) h0
  obtain ⟨vs1_, n1, rfl, hl1, hf1⟩ := agg_open Try.underlying26 (by kernel_rfl) cells26 (hval 1 26 v1 rfl rfl) h1
  obtain ⟨c1_0, c1_1, rfl⟩ := list2 hl1
  obtain ⟨y1_0, t1_0⟩ := hf1 0 _ _ rfl rfl
  obtain ⟨y1_1, t1_1⟩ := hf1 1 _ _ rfl rfl
  obtain ⟨a1_0, ea1_0, _, wa1_0⟩ := DataW.trod_int Try.underlying2 t1_0
  simp only [List.cons.injEq, and_true] at ea1_0; subst ea1_0
  obtain ⟨a1_1, ea1_1, _, wa1_1⟩ := DataW.trod_int Try.underlying2 t1_1
  simp only [List.cons.injEq, and_true] at ea1_1; subst ea1_1
  obtain ⟨vs2_, n2, rfl, hl2, hf2⟩ := agg_open Try.underlying40 (by kernel_rfl) cells40 (hval 2 40 v2 rfl rfl) h2
  obtain ⟨c2_0, c2_1, c2_2, c2_3, rfl⟩ := list4 hl2
  obtain ⟨y2_0, t2_0⟩ := hf2 0 _ _ rfl rfl
  obtain ⟨y2_1, t2_1⟩ := hf2 1 _ _ rfl rfl
  obtain ⟨y2_2, t2_2⟩ := hf2 2 _ _ rfl rfl
  obtain ⟨y2_3, t2_3⟩ := hf2 3 _ _ rfl rfl
  obtain ⟨a2_0, ea2_0, _, wa2_0⟩ := DataW.trod_int Try.underlying2 t2_0
  simp only [List.cons.injEq, and_true] at ea2_0; subst ea2_0
  obtain ⟨a2_1, ea2_1, _, wa2_1⟩ := DataW.trod_int Try.underlying2 t2_1
  simp only [List.cons.injEq, and_true] at ea2_1; subst ea2_1
  obtain ⟨a2_2, ea2_2, _, wa2_2⟩ := DataW.trod_int Try.underlying2 t2_2
  simp only [List.cons.injEq, and_true] at ea2_2; subst ea2_2
  obtain ⟨a2_3, ea2_3, _, wa2_3⟩ := DataW.trod_int Try.underlying2 t2_3
  simp only [List.cons.injEq, and_true] at ea2_3; subst ea2_3
  obtain ⟨a3, rfl, _, _⟩ := open_bool Try.underlying4 (hval 3 4 v3 rfl rfl) h3
  clear hA0 hval0
  refine (law_FnExactFirstUnsafe a0 len0 cap0 s0 t0 lf0 lu0 a1_0 a1_1 a2_0 a2_1 a2_2 a2_3 a3 W wz0 wl0).mono fun e W' ⟨he, bel⟩ => ?_
  subst he
  exact ⟨_, rfl, _, _, _, [], _, [], hW', trodAll_mk1 (shut_bool Try.underlying4 _), (trodAll_cons_mk (Below.trod laidOut (by kernel_rfl) (of_decide_eq_true (by kernel_rfl)) k0 bel lt0) (trodAll_cons_mk (Below.trod laidOut (by kernel_rfl) (of_decide_eq_true (by kernel_rfl)) k1 bel lt1) (trodAll_cons_mk (Below.trod laidOut (by kernel_rfl) (of_decide_eq_true (by kernel_rfl)) k2 bel lt2) (trodAll_cons_mk (Below.trod laidOut (by kernel_rfl) (of_decide_eq_true (by kernel_rfl)) k3 bel lt3) trodAll_mk0)))), rfl, bel.frame _, fun h => by cases h⟩

/-- THE STATEMENT. -/
theorem proved : Rows.FnExactFirstUnsafeSaid :=
  OpenClaim.holds_of_wide 5 Try.f5 rfl rfl rfl rfl rfl rfl rfl ⟨rfl, rfl, rfl, rfl, rfl⟩ rfl rfl rfl rfl rfl (by kernel_rfl) Try.func5 (by kernel_rfl)
    (of_decide_eq_true (by kernel_rfl)) (by unfold Func.isWrapper; first | (rw [if_pos (by decide +kernel)]; kernel_rfl) | (rw [if_neg (by decide +kernel)]; exact ⟨rfl, rfl⟩))
    (fun os started H enc _ => lifted os started H enc)
#print axioms proved
end Go.Proofs.Ytaagfkldcdebcaa.rowFnExactFirstUnsafe
