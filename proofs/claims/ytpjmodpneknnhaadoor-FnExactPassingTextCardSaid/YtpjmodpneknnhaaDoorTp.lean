/-
  Contracts: the text of a passing; the walk of its law.
-/
import Derived.Test.YtpjmodpneknnhaaDoorDci
import Derived.Test.YtpjmodpneknnhaaDoorKZ
import Derived.Test.YtpjmodpneknnhaaDoorKX
namespace Go.Proofs.YtpjmodpneknnhaaDoor
open Go.RowKit
set_option linter.unusedVariables false
set_option linter.unusedSimpArgs false

def passingTx (i j : Int) : ByteArray := dtx i ++ (⟨#[64]⟩ : ByteArray) ++ dtx j
def passingOk (i j : Int) : Bool := inB i 0 15 && inB j 0 1000000
def passingText (i j : Int) : ByteArray := if passingOk i j = true then passingTx i j else ⟨#[]⟩
theorem passing_bd {i j : Int} (h : passingOk i j = true) : 0 ≤ i ∧ i ≤ 15 ∧ 0 ≤ j ∧ j ≤ 1000000 := by
  unfold passingOk at h; rw [Bool.and_eq_true, inB_true, inB_true] at h; omega
theorem passing_adds (P : Program) {i j : Int} (h0 : 0 ≤ i) (h1 : i ≤ 15) (h2 : 0 ≤ j) (h3 : j ≤ 1000000) :
    (∀ w, (Op.stringOp .add (dtx i) (⟨#[64]⟩ : ByteArray)).run P w = .ok (.string (dtx i ++ (⟨#[64]⟩ : ByteArray))) w) ∧ (∀ w, (Op.stringOp .add (dtx i ++ (⟨#[64]⟩ : ByteArray)) (dtx j)).run P w = .ok (.string (dtx i ++ (⟨#[64]⟩ : ByteArray) ++ dtx j)) w) := by
  have a := dtx_size (n := i) (by omega) (by omega)
  have b := dtx_size (n := j) (by omega) (by omega)
  have c : ((⟨#[64]⟩ : ByteArray) : ByteArray).size = 1 := rfl
  refine ⟨str_add (by omega), str_add ?_⟩
  rw [ByteArray.size_append]; omega

set_option maxHeartbeats 1000000 in
theorem impl_PassingText (i j : Int) (w : World) (hT : PowAt w) : Calls Tryd.prog 20 #[.agg #[.int .i64 i, .int .i64 j]] w fun e w' => e = .returned (.string (passingText i j)) ∧ Below w.heap.size w w' := by
  have k1 := fun W => impl_within i 0 15 W
  have k2 := fun W => impl_isSecond j W
  unfold passingText passingOk
  cases h1 : inB i 0 15 <;> cases h2 : inB j 0 1000000
  case true.true =>
    obtain ⟨b0, b1⟩ := inB_true.1 h1
    obtain ⟨b2, b3⟩ := inB_true.1 h2
    rw [h1] at k1
    rw [h2] at k2
    have kd := fun n W h0 h1 hT => impl_Decimal_t n W h0 h1 hT
    rw [Bool.and_self, if_pos rfl]
    obtain ⟨a1, a2⟩ := passing_adds Tryd.prog b0 b1 b2 b3
    unfold passingTx
    generalize dtx i ++ (⟨#[64]⟩ : ByteArray) = T1 at *
    generalize T1 ++ dtx j = T2 at *
    clear h1 h2
    go_enter Tryd.func20, Tryd.ntmps20
    go_wp2_with (first | (go_at_call 50; (with_reducible refine (k1 _).mono ?_); rintro e w' ⟨rfl, rfl⟩) | (go_at_call 51; (with_reducible refine (k2 _).mono ?_); rintro e w' ⟨rfl, rfl⟩))
    have hB : Below w.heap.size w (w.alloc (Obj.cells #[.int .i64 i, .int .i64 j] 37)) := by go_grown
    have hT1 := hT.below hB
    (refine wp_region_cls (by kernel_rfl) (by kernel_rfl) ?_; (repeat (go_big_quiet_step ((go_at_call 43; exact cls_B (kd _ _ (by omega) (by omega) (hT1.below (Cls.below _))))))); refine wpQuiet_nil ?_; rintro _ ⟨u, rfl⟩; have hb := u.below; replace hB := hB.trans (hb.mono hB.size); generalize u.w = w' at *; obtain ⟨hc, hf, hs⟩ := bkeep hb; have hq' := hb.size; have hq := hB.size; have hb' := hb; clear hb)
    go_wp2
    go_returns
    exact ⟨rfl, hB⟩
  all_goals
    rw [h1] at k1
    rw [h2] at k2
    clear h1 h2
    go_enter Tryd.func20, Tryd.ntmps20
    go_wp2_with (first | (go_at_call 50; (with_reducible refine (k1 _).mono ?_); rintro e w' ⟨rfl, rfl⟩) | (go_at_call 51; (with_reducible refine (k2 _).mono ?_); rintro e w' ⟨rfl, rfl⟩))
    go_returns
    exact ⟨rfl, by go_grown⟩

theorem spec_l12One (g q : Nat) (i j : Int) (w : World) (c0 : w.cell? ⟨g, q, none⟩ = some (.int .i64 i)) (c1 : w.cell? ⟨g, q + 1, none⟩ = some (.int .i64 j)) : Calls Tryd.prog 48 #[.pointer (some ⟨g, q, none⟩)] w fun e w' => e = .returned (.bool (passingOk i j)) ∧ w = w' := by
  have k1 := fun W => spec_l00In i 0 15 W
  have k2 : ∀ W, Calls Tryd.prog 72 #[.int .i64 j] W fun e w' => e = .returned (.bool (inB j 0 1000000)) ∧ W = w' := fun W => by
    have k3 := fun W => spec_l00In j 0 1000000 W
    generalize inB j 0 1000000 = b at *
    go_enter Tryd.func72, Tryd.ntmps72
    go_wp2_with (go_at_call 67; (with_reducible refine (k3 _).mono ?_); rintro e w' ⟨rfl, rfl⟩)
    go_returns
    exact ⟨rfl, rfl⟩
  unfold passingOk
  generalize inB i 0 15 = b1 at *
  generalize inB j 0 1000000 = b2 at *
  cases b1 <;> cases b2
  all_goals
    go_enter Tryd.func48, Tryd.ntmps48
    go_wp2_with (first | (go_at_call 67; (with_reducible refine (k1 _).mono ?_); rintro e w' ⟨rfl, rfl⟩) | (go_at_call 72; (with_reducible refine (k2 _).mono ?_); rintro e w' ⟨rfl, rfl⟩))
    go_returns
    exact ⟨rfl, rfl⟩

set_option maxHeartbeats 1000000 in
theorem spec_l12Text (g q : Nat) (i j : Int) (w : World) (h0 : 0 ≤ i) (h1 : i ≤ 15) (h2 : 0 ≤ j) (h3 : j ≤ 1000000) (c0 : w.cell? ⟨g, q, none⟩ = some (.int .i64 i)) (c1 : w.cell? ⟨g, q + 1, none⟩ = some (.int .i64 j)) :
    Calls Tryd.prog 49 #[.pointer (some ⟨g, q, none⟩)] w fun e w' => e = .returned (.string (passingTx i j)) ∧ Below w.heap.size w w' := by
  have kd := fun n W h0 h1 => spec_l01Dec_t n W h0 h1
  have hz0 : g < w.heap.size := World.block_lt_of_cell? w _ c0
  obtain ⟨a1, a2⟩ := passing_adds Tryd.prog h0 h1 h2 h3
  unfold passingTx
  generalize dtx i ++ (⟨#[64]⟩ : ByteArray) = T1 at *
  generalize T1 ++ dtx j = T2 at *
  go_enter Tryd.func49, Tryd.ntmps49
  go_wp2
  (refine wp_region_cls (by kernel_rfl) (by kernel_rfl) ?_; (repeat (go_big_quiet_step ((go_at_call 68; exact cls_B (kd _ _ (by omega) (by omega)))))); refine wpQuiet_nil ?_; rintro _ ⟨u, rfl⟩; have hb := u.below; generalize u.w = w' at *; obtain ⟨hc, hf⟩ := bcell hb; have hz : w.heap.size ≤ w'.heap.size := (by have := hb.size; (try simp at this); omega); have hB : Below w.heap.size w w' := Below.trans (by go_grown) (hb.mono (by go_size)))
  go_wp2
  go_returns
  exact ⟨rfl, hB⟩

set_option maxHeartbeats 1000000 in
theorem spec_PassingText (i j : Int) (w : World) : Calls Tryd.prog 18 #[.agg #[.int .i64 i, .int .i64 j]] w fun e w' => e = .returned (.string (passingText i j)) ∧ Below w.heap.size w w' := by
  have kb := fun W c0 c1 => spec_l12One w.heap.size 0 i j W c0 c1
  unfold passingText
  cases h : passingOk i j
  · rw [h] at kb
    go_enter Tryd.func18, Tryd.ntmps18
    go_wp2_with (go_at_call 48; refine (kb _ (by go_cell) (by go_cell)).mono ?_; rintro e w' ⟨rfl, rfl⟩)
    go_returns
    exact ⟨rfl, by go_grown⟩
  · obtain ⟨b0, b1, b2, b3⟩ := passing_bd h
    rw [h] at kb
    have kt := fun W c0 c1 => spec_l12Text w.heap.size 0 i j W b0 b1 b2 b3 c0 c1
    rw [if_pos rfl]
    generalize passingTx i j = R at *
    go_enter Tryd.func18, Tryd.ntmps18
    go_wp2_with (first | (go_at_call 48; refine (kb _ (by go_cell) (by go_cell)).mono ?_; rintro e w' ⟨rfl, rfl⟩) | (go_at_call 49; refine (kt _ (by go_cell) (by go_cell)).mono ?_; rintro e w' ⟨rfl, hb⟩))
    go_returns
    exact ⟨rfl, Below.trans (by go_grown) (hb.mono (by go_size))⟩

set_option maxHeartbeats 1000000 in
theorem law_FnExactPassingText (i j : Int) (w : World) (hT : PowAt w) : Calls Tryd.prog 5 #[.agg #[.int .i64 i, .int .i64 j]] w fun e' w' => e' = .returned (.bool true) ∧ Below w.heap.size w w' := by
  have cs := fun W => spec_PassingText i j W
  have ci := fun W h => impl_PassingText i j W h
  generalize passingText i j = R at *
  go_enter Tryd.func5, Tryd.ntmps5
  go_wp2_with (first | (go_at_call 19; (with_reducible refine (laws_toPassing_x _ _ _).mono ?_); rintro e w' ⟨rfl, rfl⟩) | (go_at_call 18; (with_reducible refine (cs _).mono ?_); rintro e w' ⟨rfl, hb⟩; obtain ⟨hc, hf⟩ := bcell hb; have hz : w.heap.size < w'.heap.size := (by have := hb.size; (try simp at this); omega); have hB : Below w.heap.size w w' := Below.trans (by go_grown) (hb.mono (by go_size))) | (go_at_call 20; (with_reducible refine (ci _ (hT.below (by go_grown))).mono ?_); rintro e w' ⟨rfl, hb⟩; obtain ⟨hc, hf⟩ := bcell hb; have hz : w.heap.size < w'.heap.size := (by have := hb.size; (try simp at this); omega); have hB : Below w.heap.size w w' := Below.trans (by go_grown) (hb.mono (by go_size))))
  go_returns
  exact ⟨rfl, by go_grown⟩

end Go.Proofs.YtpjmodpneknnhaaDoor
