/-
  The statement 'FnExactMotorTextCardSaid': for every input the law returns true, and each argument reads afterwards as before; the listed variables of Go's library are tied to the program's text. No other condition.
-/
import Derived.Test.YtpjmodpneknnhaaDoorRows
import Derived.Test.YtpjmodpneknnhaaDoorTie
import Derived.Test.YtpjmodpneknnhaaDoorCards
import Derived.Test.YtpjmodpneknnhaaDoorTm
import Derived.Test.YtpjmodpneknnhaaDoorOp
import Derived.Handy
import Derived.ProofKit
import Derived.OpenShut
import Derived.ShutString
import Derived.ChangeOld
import Derived.Below
import Derived.Lib.SmallJoins
import Derived.LaidMore
import Derived.Stop.LaidErr
import Derived.Stop.Joined
import Derived.SevenTiedAt
namespace Go.Proofs.YtpjmodpneknnhaaDoor.rowFnExactMotorText
open Go.ChangeShapes Go.WideShapes Go.ChangeAt Go.RowKit Go.Joins
open Go.ChangeMaps (open_string shut_string)
set_option linter.unusedVariables false

theorem own : ownKnob Tryd.prog.godebug = none := by kernel_rfl
theorem laidOut : laidOutB Tryd.prog = true := by kernel_rfl
theorem cells41 : Tryd.prog.cellsOf 41 = 3 := by kernel_rfl
/-- The heap that the door's own run leaves meets the condition. -/
theorem door_met (os : Os) (args : Array Value) : laidMetH Tryd.prog Rows.fnExactMotorTextRow.laid ((World.doorLaid Tryd.prog 72 os).forCall (fun _ _ => 0) ⟨#[], args, []⟩).memory :=
  laidMetH_of_parts3 (fuel := 8) (laidMet_of_run' 8 (by kernel_rfl) (by kernel_rfl)) (by kernel_rfl) (by kernel_rfl)
theorem pow_type : (Tryd.prog.globals[1]?).map (·.type) = some 144 := by kernel_rfl
theorem pow_of {W : World} (h : laidMetH Tryd.prog Rows.fnExactMotorTextRow.laid W) : PowAt W := by
  rw [MakeChecks.laidMetH_plain _ _ _ (by kernel_rfl)] at h
  exact Go.Lib.tabIs_of_head pow_global pow_type Tryd.underlying144 Tryd.underlying125 (by kernel_rfl) (by kernel_rfl) (show laidMet Tryd.prog ((_, Go.Lib.tabData .u64 Go.Lib.pow10Tab) :: _) W from laidMet.tail (laidMet.tail (h)))

set_option maxRecDepth 100000 in
theorem lifted (os : Os) (started : os.Started) (H : Type) (enc : TypeId × Value → H) :
    ReturnsInHanded {} Tryd.checked os 6 .any (fun w args => (Rows.fnExactMotorTextSpec.pre enc Tryd.prog Tryd.f6 [] false w args ∧ laidMetH Tryd.prog Rows.fnExactMotorTextRow.laid w) ∧ sizedMet enc Tryd.prog Tryd.f6 (OpenSpec.ofChange Rows.fnExactMotorTextSpec) false w args)
      (Rows.fnExactMotorTextSpec.post enc Tryd.prog Tryd.f6 false true false false) := by
  refine returnsInHanded_of_change_and (C := Tryd.checked) (X := fun w _ => laidMetH Tryd.prog Rows.fnExactMotorTextRow.laid w) (fun _ _ _ hh h => h.of_heap hh) own started (by kernel_rfl) Tryd.func6
    (ChangeSpec.witness_shaped (enc := enc) (C := Tryd.checked) (os := os) (X := fun w _ => laidMetH Tryd.prog Rows.fnExactMotorTextRow.laid w) false (World.doorLaid Tryd.prog 72 os) #[.agg #[.int .i64 0, .int .i64 0, .int .i64 0]] 8 rfl (World.shaped_of_RefB (by kernel_rfl) (by kernel_rfl)) (by kernel_rfl) (by kernel_rfl) (by kernel_rfl) (door_met os _)) ?_
  intro W base args ds gs before hval0 hW _ _ hL _
  have hval : ∀ (j : Nat) t v, Tryd.f6.params[j]? = some t → args[j]? = some v → Value.okWide Tryd.prog W .any base t v := hval0
  have hW' := hW
  obtain ⟨p, q, hA0, hV, rfl, hfz, hnd⟩ := hW
  have hA : DataW.TrodAll enc Tryd.prog W 0 (fun _ => true) true Tryd.f6.params.toList args.toList ds p := hA0
  rw [Tryd.params6] at hA hval
  obtain ⟨v0, vs0, d0, ds0, p0, q0, hargs, rfl, rfl, h0, r0⟩ := trodAll_cons hA
  obtain ⟨rfl, rfl, rfl⟩ := trodAll_nil r0
  obtain rfl : args = #[v0] := by cases args; simp_all
  obtain ⟨rfl, rfl⟩ := trodVars_none hV
  have k0 := h0
  have lt0 : ∀ x ∈ p0, x.block < W.heap.size := by obtain ⟨m, hm⟩ := k0; exact DataW.trod_lt m _ _ _ hm
  obtain ⟨vs0_, n0, rfl, hl0, hf0⟩ := agg_open Tryd.underlying41 (by kernel_rfl) cells41 (hval 0 41 v0 rfl rfl) h0
  obtain ⟨c0_0, c0_1, c0_2, rfl⟩ := list3 hl0
  obtain ⟨y0_0, t0_0⟩ := hf0 0 _ _ rfl rfl
  obtain ⟨y0_1, t0_1⟩ := hf0 1 _ _ rfl rfl
  obtain ⟨y0_2, t0_2⟩ := hf0 2 _ _ rfl rfl
  obtain ⟨a0_0, ea0_0, _, wa0_0⟩ := DataW.trod_int Tryd.underlying2 t0_0
  simp only [List.cons.injEq, and_true] at ea0_0; subst ea0_0
  obtain ⟨a0_1, ea0_1, _, wa0_1⟩ := DataW.trod_int Tryd.underlying2 t0_1
  simp only [List.cons.injEq, and_true] at ea0_1; subst ea0_1
  obtain ⟨a0_2, ea0_2, _, wa0_2⟩ := DataW.trod_int Tryd.underlying2 t0_2
  simp only [List.cons.injEq, and_true] at ea0_2; subst ea0_2
  clear hA0 hval0
  refine (law_FnExactMotorText a0_0 a0_1 a0_2 W  (pow_of hL)).mono fun e W' ⟨he, bel⟩ => ?_
  subst he
  exact ⟨_, rfl, _, _, _, [], _, [], hW', trodAll_mk1 (shut_bool Tryd.underlying4 _), (trodAll_cons_mk (Below.trod laidOut (by kernel_rfl) (of_decide_eq_true (by kernel_rfl)) k0 bel lt0) trodAll_mk0), rfl, bel.frame _, fun h => by cases h⟩

theorem bare : Rows.FnExactMotorTextSaid :=
  OpenClaim.holds_of_wide 6 Tryd.f6 rfl rfl rfl rfl rfl rfl rfl ⟨rfl, rfl, rfl, rfl, rfl⟩ rfl rfl rfl rfl rfl (by kernel_rfl) Tryd.func6 (by kernel_rfl)
    (of_decide_eq_true (by kernel_rfl)) (by unfold Func.isWrapper; first | (rw [if_pos (by decide +kernel)]; kernel_rfl) | (rw [if_neg (by decide +kernel)]; exact ⟨rfl, rfl⟩))
    (fun os started H enc _ => lifted os started H enc)
/-- THE STATEMENT. -/
theorem proved : Rows.FnExactMotorTextCardSaid :=
  Claim7.holds_tied_plain_at .later [] [.data, .data, .data] true (true, "f8f145e5f2a3715697c1bbf1cf6192aebd2ec30823999b118fcfd6d284941c9d") true
    bare (fun _ h => by cases h) (by kernel_rfl) (fun _ h => by cases h) fnExactMotorText_row_tie rfl ⟨rfl, rfl⟩ (by kernel_rfl) rfl
    (fun f fn hf hfn => by
      obtain rfl : f = 6 := Option.some.inj ((show Tryd.prog.funcNamed Rows.fnExactMotorTextRow.func = some 6 by kernel_rfl).symm.trans hf) |>.symm
      obtain rfl : fn = Tryd.f6 := (Option.some.inj (Tryd.func6.symm.trans hfn)).symm
      exact ⟨by kernel_rfl, fun j t ht => by
        rw [Tryd.params6] at ht
        rcases j with _ | j
        · have h3 : t = 41 := by simpa using ht.symm
          subst h3
          exact (show Tryd.prog.wantsStandIn 41 = false by kernel_rfl)
        · simp at ht⟩)
    (by kernel_rfl)
#print axioms proved
end Go.Proofs.YtpjmodpneknnhaaDoor.rowFnExactMotorText
