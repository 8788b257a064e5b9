/-
  Contracts: the text of a passing; the walk of its law.
-/
import Derived.Test.YtdhjnpjemaofoaaDoorDci
import Derived.Test.YtdhjnpjemaofoaaDoorM1
namespace Go.Proofs.YtdhjnpjemaofoaaDoor
open Go.RowKit
set_option linter.unusedVariables false
set_option linter.unusedSimpArgs false

def passingTx (i j : Int) : ByteArray := dtx i ++ (⟨#[64]⟩ : ByteArray) ++ dtx j
def passingOk (i j : Int) : Bool := inB i 0 15 && inB j 0 1000000
def passingText (i j : Int) : ByteArray := if passingOk i j = true then passingTx i j else ⟨#[]⟩
theorem passing_bd {i j : Int} (h : passingOk i j = true) : 0 ≤ i ∧ i ≤ 15 ∧ 0 ≤ j ∧ j ≤ 1000000 := by
  unfold passingOk at h; rw [Bool.and_eq_true, inB_true, inB_true] at h; omega
theorem passing_adds (P : Program) {i j : Int} (h0 : 0 ≤ i) (h1 : i ≤ 15) (h2 : 0 ≤ j) (h3 : j ≤ 1000000) :
    (∀ w, (Op.stringOp .add (dtx i) (⟨#[64]⟩ : ByteArray)).run P w = .ok (.string (dtx i ++ (⟨#[64]⟩ : ByteArray))) w) ∧ (∀ w, (Op.stringOp .add (dtx i ++ (⟨#[64]⟩ : ByteArray)) (dtx j)).run P w = .ok (.string (dtx i ++ (⟨#[64]⟩ : ByteArray) ++ dtx j)) w) := by
  have a := dtx_size (n := i) (by omega) (by omega)
  have b := dtx_size (n := j) (by omega) (by omega)
  have c : ((⟨#[64]⟩ : ByteArray) : ByteArray).size = 1 := rfl
  refine ⟨str_add (by omega), str_add ?_⟩
  rw [ByteArray.size_append]; omega

set_option maxHeartbeats 1000000 in
theorem impl_PassingText (i j : Int) (w : World) (hT : PowAt w) : Calls Tryd.prog 28 #[.agg #[.int .i64 i, .int .i64 j]] w fun e w' => e = .returned (.string (passingText i j)) ∧ Below w.heap.size w w' := by
  have k1 := fun W => impl_within i 0 15 W
  have k2 := fun W => impl_isSecond j W
  unfold passingText passingOk
  cases h1 : inB i 0 15 <;> cases h2 : inB j 0 1000000
  case true.true =>
    obtain ⟨b0, b1⟩ := inB_true.1 h1
    obtain ⟨b2, b3⟩ := inB_true.1 h2
    rw [h1] at k1
    rw [h2] at k2
    have kd := fun n W h0 h1 hT => impl_Decimal_t n W h0 h1 hT
    rw [Bool.and_self, if_pos rfl]
    obtain ⟨a1, a2⟩ := passing_adds Tryd.prog b0 b1 b2 b3
    unfold passingTx
    generalize dtx i ++ (⟨#[64]⟩ : ByteArray) = T1 at *
    generalize T1 ++ dtx j = T2 at *
    clear h1 h2
    go_enter Tryd.func28, Tryd.ntmps28
    go_wp2_with (first | (go_at_call 51; (with_reducible refine (k1 _).mono ?_); rintro e w' ⟨rfl, rfl⟩) | (go_at_call 52; (with_reducible refine (k2 _).mono ?_); rintro e w' ⟨rfl, rfl⟩))
    have hB : Below w.heap.size w (w.alloc (Obj.cells #[.int .i64 i, .int .i64 j] 53)) := by go_grown
    have hT1 := hT.below hB
    (refine wp_region_cls (by kernel_rfl) (by kernel_rfl) ?_; (repeat (go_big_quiet_step ((go_at_call 47; exact cls_B (kd _ _ (by omega) (by omega) (hT1.below (Cls.below _))))))); refine wpQuiet_nil ?_; rintro _ ⟨u, rfl⟩; have hb := u.below; replace hB := hB.trans (hb.mono hB.size); generalize u.w = w' at *; obtain ⟨hc, hf, hs⟩ := bkeep hb; have hq' := hb.size; have hq := hB.size; have hb' := hb; clear hb)
    go_wp2
    go_returns
    exact ⟨rfl, hB⟩
  all_goals
    rw [h1] at k1
    rw [h2] at k2
    clear h1 h2
    go_enter Tryd.func28, Tryd.ntmps28
    go_wp2_with (first | (go_at_call 51; (with_reducible refine (k1 _).mono ?_); rintro e w' ⟨rfl, rfl⟩) | (go_at_call 52; (with_reducible refine (k2 _).mono ?_); rintro e w' ⟨rfl, rfl⟩))
    go_returns
    exact ⟨rfl, by go_grown⟩

end Go.Proofs.YtdhjnpjemaofoaaDoor
