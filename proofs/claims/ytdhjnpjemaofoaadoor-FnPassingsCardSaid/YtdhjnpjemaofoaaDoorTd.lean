/-
  Contracts: the text of a door; the walk of its law.
-/
import Derived.Test.YtdhjnpjemaofoaaDoorDci
import Derived.Test.YtdhjnpjemaofoaaDoorKC
import Derived.Test.YtdhjnpjemaofoaaDoorM1
namespace Go.Proofs.YtdhjnpjemaofoaaDoor
open Go.RowKit
set_option linter.unusedVariables false
set_option linter.unusedSimpArgs false

def doorTx (p k r : Int) : ByteArray := doorName p ++ ⟨#[47]⟩ ++ dtx k ++ ⟨#[47]⟩ ++ dtx r
def doorText (p k r : Int) : ByteArray := if validDoor p k r = true then doorTx p k r else ⟨#[]⟩
theorem validDoor_bd' {p k r : Int} (h : validDoor p k r = true) : 0 ≤ k ∧ k ≤ 2 ∧ 0 ≤ r ∧ r ≤ 3 := by
  unfold validDoor at h
  rw [Bool.and_eq_true] at h
  have h2 := h.2
  split at h2
  · rw [Bool.and_eq_true, inB_true, inB_true] at h2; omega
  · rw [Bool.and_eq_true, beq_iff_eq, beq_iff_eq] at h2; omega
theorem doorName_size (p : Int) : (doorName p).size ≤ 8 := by
  unfold doorName
  split
  · exact (by decide : (⟨#[115, 104, 117, 116]⟩ : ByteArray).size ≤ 8)
  · split
    · exact (by decide : (⟨#[111, 112, 101, 110, 105, 110, 103]⟩ : ByteArray).size ≤ 8)
    · split
      · exact (by decide : (⟨#[111, 112, 101, 110]⟩ : ByteArray).size ≤ 8)
      · split
        · exact (by decide : (⟨#[115, 104, 117, 116, 116, 105, 110, 103]⟩ : ByteArray).size ≤ 8)
        · exact (by decide : (⟨#[]⟩ : ByteArray).size ≤ 8)
theorem door_adds (P : Program) (p : Int) {k r : Int} (h0 : 0 ≤ k) (h1 : k ≤ 2) (h2 : 0 ≤ r) (h3 : r ≤ 3) :
    (∀ w, (Op.stringOp .add (doorName p) ⟨#[47]⟩).run P w = .ok (.string (doorName p ++ ⟨#[47]⟩)) w) ∧ (∀ w, (Op.stringOp .add (doorName p ++ ⟨#[47]⟩) (dtx k)).run P w = .ok (.string (doorName p ++ ⟨#[47]⟩ ++ dtx k)) w) ∧
    (∀ w, (Op.stringOp .add (doorName p ++ ⟨#[47]⟩ ++ dtx k) ⟨#[47]⟩).run P w = .ok (.string (doorName p ++ ⟨#[47]⟩ ++ dtx k ++ ⟨#[47]⟩)) w) ∧ (∀ w, (Op.stringOp .add (doorName p ++ ⟨#[47]⟩ ++ dtx k ++ ⟨#[47]⟩) (dtx r)).run P w = .ok (.string (doorName p ++ ⟨#[47]⟩ ++ dtx k ++ ⟨#[47]⟩ ++ dtx r)) w) := by
  have a := dtx_size (n := k) (by omega) (by omega)
  have b := dtx_size (n := r) (by omega) (by omega)
  have c : (⟨#[47]⟩ : ByteArray).size = 1 := rfl
  have d := doorName_size p
  refine ⟨str_add (by omega), str_add ?_, str_add ?_, str_add ?_⟩ <;> simp only [ByteArray.size_append] <;> omega

set_option maxHeartbeats 1000000 in
theorem impl_DoorText (p k r : Int) (w : World) (hT : PowAt w) : Calls Tryd.prog 18 #[.agg #[.int .i64 p, .int .i64 k, .int .i64 r]] w fun e w' => e = .returned (.string (doorText p k r)) ∧ Below w.heap.size w w' := by
  have kb := fun W => impl_ValidDoor p k r W
  unfold doorText
  cases h : validDoor p k r
  · rw [h] at kb
    go_enter Tryd.func18, Tryd.ntmps18
    go_wp2_with (go_at_call 38; (with_reducible refine (kb _).mono ?_); rintro e w' ⟨rfl, hb⟩; obtain ⟨hc, hf⟩ := bcell hb; have hz : w.heap.size < w'.heap.size := (by have := hb.size; (try simp at this); omega); have hB : Below w.heap.size w w' := Below.trans (by go_grown) (hb.mono (by go_size)))
    go_returns
    exact ⟨rfl, hB⟩
  · obtain ⟨b0, b1, b2, b3⟩ := validDoor_bd' h
    rw [h] at kb
    have kd := fun n W h0 h1 hT => impl_Decimal_t n W h0 h1 hT
    have kn := fun W => impl_DoorName p W
    rw [if_pos rfl]
    obtain ⟨a1, a2, a3, a4⟩ := door_adds Tryd.prog p b0 b1 b2 b3
    unfold doorTx
    generalize doorName p ++ ⟨#[47]⟩ = T1 at *
    generalize T1 ++ dtx k = T2 at *
    generalize T2 ++ ⟨#[47]⟩ = T3 at *
    generalize T3 ++ dtx r = T4 at *
    go_enter Tryd.func18, Tryd.ntmps18
    go_wp2_with (go_at_call 38; (with_reducible refine (kb _).mono ?_); rintro e w' ⟨rfl, hb⟩; obtain ⟨hc, hf⟩ := bcell hb; have hz : w.heap.size < w'.heap.size := (by have := hb.size; (try simp at this); omega); have hB : Below w.heap.size w w' := Below.trans (by go_grown) (hb.mono (by go_size)))
    have hT1 := hT.below hB
    (refine wp_region_cls (by kernel_rfl) (by kernel_rfl) ?_; (repeat (go_big_quiet_step ((first | (go_at_call 46; exact cls_B (kn _)) | (go_at_call 47; exact cls_B (kd _ _ (by omega) (by omega) (hT1.below (Cls.below _)))))))); refine wpQuiet_nil ?_; rintro _ ⟨u, rfl⟩; have hb := u.below; replace hB := hB.trans (hb.mono hB.size); generalize u.w = w' at *; obtain ⟨hc, hf, hs⟩ := bkeep hb; have hq' := hb.size; have hq := hB.size; have hb' := hb; clear hb)
    go_wp2
    go_returns
    exact ⟨rfl, hB⟩

end Go.Proofs.YtdhjnpjemaofoaaDoor
