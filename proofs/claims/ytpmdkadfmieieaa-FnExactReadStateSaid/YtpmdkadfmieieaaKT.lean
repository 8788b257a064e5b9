/-
  Contract of the reference's text of a state.
-/
import Derived.Test.YtpmdkadfmieieaaKC
namespace Go.Proofs.Ytpmdkadfmieieaa
open Go.RowKit
set_option linter.unusedVariables false
set_option linter.unusedSimpArgs false


theorem stateText_adds' {P : Program} (m : Int) (o a b e : Bool) (M : ByteArray) (hM : M = modeName m) :
    (∀ w, (Op.stringOp .add M ⟨#[32]⟩).run P w = .ok (.string (modeName m ++ ⟨#[32]⟩)) w) ∧
    (∀ w, (Op.stringOp .add (modeName m ++ ⟨#[32]⟩) (sgn o ⟨#[111]⟩)).run P w = .ok (.string (modeName m ++ ⟨#[32]⟩ ++ sgn o ⟨#[111]⟩)) w) ∧
    (∀ w, (Op.stringOp .add (modeName m ++ ⟨#[32]⟩ ++ sgn o ⟨#[111]⟩) (sgn a ⟨#[97]⟩)).run P w = .ok (.string (modeName m ++ ⟨#[32]⟩ ++ sgn o ⟨#[111]⟩ ++ sgn a ⟨#[97]⟩)) w) ∧
    (∀ w, (Op.stringOp .add (modeName m ++ ⟨#[32]⟩ ++ sgn o ⟨#[111]⟩ ++ sgn a ⟨#[97]⟩) (sgn b ⟨#[98]⟩)).run P w = .ok (.string (modeName m ++ ⟨#[32]⟩ ++ sgn o ⟨#[111]⟩ ++ sgn a ⟨#[97]⟩ ++ sgn b ⟨#[98]⟩)) w) ∧
    (∀ w, (Op.stringOp .add (modeName m ++ ⟨#[32]⟩ ++ sgn o ⟨#[111]⟩ ++ sgn a ⟨#[97]⟩ ++ sgn b ⟨#[98]⟩) (sgn e ⟨#[101]⟩)).run P w = .ok (.string (modeName m ++ ⟨#[32]⟩ ++ sgn o ⟨#[111]⟩ ++ sgn a ⟨#[97]⟩ ++ sgn b ⟨#[98]⟩ ++ sgn e ⟨#[101]⟩)) w) := by
  subst hM
  exact stateText_adds m o a b e
theorem spec_l13Modes (w : World) : Calls Try.prog 64 #[] w fun e w' => e = .returned (.slice (some ⟨w.heap.size, 0, none⟩) 5 5) ∧ w.alloc (.cells #[.string ⟨#[115, 116, 111, 112]⟩, .string ⟨#[114, 101, 97, 100, 121]⟩, .string ⟨#[114, 117, 110]⟩, .string ⟨#[99, 114, 101, 101, 112]⟩, .string ⟨#[102, 97, 117, 108, 116]⟩] 9) = w' := by
  go_enter Try.func64, Try.ntmps64
  go_wp2
  go_returns
  exact ⟨rfl, rfl⟩
set_option maxRecDepth 100000 in
set_option maxHeartbeats 1000000 in
theorem spec_l13Text_0 (g k : Nat) (o a b e : Bool) (w : World) (hg : g < w.heap.size)
    (c0 : w.cell? ⟨g, k, none⟩ = some (.int .i64 0)) (c1 : w.cell? ⟨g, k + 1, none⟩ = some (.bool o)) (c2 : w.cell? ⟨g, k + 2, none⟩ = some (.bool a)) (c3 : w.cell? ⟨g, k + 3, none⟩ = some (.bool b)) (c4 : w.cell? ⟨g, k + 4, none⟩ = some (.bool e)) :
    Calls Try.prog 32 #[.pointer (some ⟨g, k, none⟩)] w fun e' w' => e' = .returned (.string (stateText 0 o a b e)) ∧ Below w.heap.size w w' := by
  obtain ⟨a1, a2, a3, a4, a5⟩ := stateText_adds' (P := Try.prog) 0 o a b e ⟨#[115, 116, 111, 112]⟩ rfl
  have hfin : stateText 0 o a b e = modeName 0 ++ ⟨#[32]⟩ ++ sgn o ⟨#[111]⟩ ++ sgn a ⟨#[97]⟩ ++ sgn b ⟨#[98]⟩ ++ sgn e ⟨#[101]⟩ := rfl
  rw [hfin]
  generalize modeName 0 ++ ⟨#[32]⟩ = T0 at *
  generalize T0 ++ sgn o ⟨#[111]⟩ = T1 at *
  generalize T1 ++ sgn a ⟨#[97]⟩ = T2 at *
  generalize T2 ++ sgn b ⟨#[98]⟩ = T3 at *
  generalize T3 ++ sgn e ⟨#[101]⟩ = T4 at *
  clear hfin
  go_enter Try.func32, Try.ntmps32
  go_wp2
  refine wp_region_held_drew (S := fun W => Hid (W = w.drew ∨ W = w.drew.alloc (Obj.cells #[.string ⟨#[115, 116, 111, 112]⟩, .string ⟨#[114, 101, 97, 100, 121]⟩, .string ⟨#[114, 117, 110]⟩, .string ⟨#[99, 114, 101, 101, 112]⟩, .string ⟨#[102, 97, 117, 108, 116]⟩] 9))) (by kernel_rfl) (.inl rfl) (fun hHeld => ?_)
  (refine wpAnyH_take (i := 1) (v := ?_) rfl (by kernel_rfl) (by kernel_rfl) (by kernel_rfl) (fun _ _ _ h => h) (Or.inl ⟨by rfl, ?_⟩) (by assumption) ?_); rotate_left; focus (intro w hSw; (rcases hSw.out with rfl | rfl <;> (try go_simp) <;> (try with_reducible rfl))); try simp only [Act.put, List.setIfInBounds_toArray, List.set_cons_zero, List.set_cons_succ]
  (refine wpAnyH_take (i := 2) (v := ?_) rfl (by kernel_rfl) (by kernel_rfl) (by kernel_rfl) (fun _ _ _ h => h) (Or.inl ⟨by rfl, ?_⟩) (by assumption) ?_); rotate_left; focus (intro w hSw; (rcases hSw.out with rfl | rfl <;> (try go_simp) <;> (try with_reducible rfl))); try simp only [Act.put, List.setIfInBounds_toArray, List.set_cons_zero, List.set_cons_succ]
  (refine wpAnyH_take (i := 3) (v := ?_) rfl (by kernel_rfl) (by kernel_rfl) (by kernel_rfl) (fun _ _ _ h => h) (Or.inl ⟨by rfl, ?_⟩) (by assumption) ?_); rotate_left; focus (intro w hSw; (rcases hSw.out with rfl | rfl <;> (try go_simp) <;> (try with_reducible rfl))); try simp only [Act.put, List.setIfInBounds_toArray, List.set_cons_zero, List.set_cons_succ]
  (refine wpAnyH_take (i := 4) (v := ?_) rfl (by kernel_rfl) (by kernel_rfl) (by kernel_rfl) (fun _ _ _ h => h) (Or.inl ⟨by rfl, ?_⟩) (by assumption) ?_); rotate_left; focus (intro w hSw; (rcases hSw.out with rfl | rfl <;> (try go_simp) <;> (try with_reducible rfl))); try simp only [Act.put, List.setIfInBounds_toArray, List.set_cons_zero, List.set_cons_succ]
  (refine wpAnyH_take (i := 8) (v := ?_) rfl (by kernel_rfl) (by kernel_rfl) (by kernel_rfl) (fun _ _ _ h => h) (Or.inl ⟨by rfl, ?_⟩) (by assumption) ?_); rotate_left; focus (intro w hSw; (rcases hSw.out with rfl | rfl <;> (try go_simp) <;> (try with_reducible rfl))); try simp only [Act.put, List.setIfInBounds_toArray, List.set_cons_zero, List.set_cons_succ]
  (refine wpAnyH_take (i := 9) (v := ?_) rfl (by kernel_rfl) (by kernel_rfl) (by kernel_rfl) (fun _ _ _ h => h) (Or.inl ⟨by rfl, ?_⟩) (by assumption) ?_); rotate_left; focus (intro w hSw; (rcases hSw.out with rfl | rfl <;> (try go_simp) <;> (try with_reducible rfl))); try simp only [Act.put, List.setIfInBounds_toArray, List.set_cons_zero, List.set_cons_succ]
  (refine wpAnyH_take (i := 10) (v := ?_) rfl (by kernel_rfl) (by kernel_rfl) (by kernel_rfl) (fun _ _ _ h => h) (Or.inl ⟨by rfl, ?_⟩) (by assumption) ?_); rotate_left; focus (intro w hSw; (rcases hSw.out with rfl | rfl <;> (try go_simp) <;> (try with_reducible rfl))); try simp only [Act.put, List.setIfInBounds_toArray, List.set_cons_zero, List.set_cons_succ]
  (refine wpAnyH_take (i := 11) (v := ?_) rfl (by kernel_rfl) (by kernel_rfl) (by kernel_rfl) (fun _ _ _ h => h) (Or.inl ⟨by rfl, ?_⟩) (by assumption) ?_); rotate_left; focus (intro w hSw; (rcases hSw.out with rfl | rfl <;> (try go_simp) <;> (try with_reducible rfl))); try simp only [Act.put, List.setIfInBounds_toArray, List.set_cons_zero, List.set_cons_succ]
  (refine wpAnyH_take (i := 14) (v := ?_) rfl (by kernel_rfl) (by kernel_rfl) (by kernel_rfl) (fun _ _ _ h => h) (Or.inl ⟨by rfl, ?_⟩) (by assumption) ?_); rotate_left; focus (intro w hSw; (rcases hSw.out with rfl | rfl <;> (try go_simp) <;> (try with_reducible rfl))); try simp only [Act.put, List.setIfInBounds_toArray, List.set_cons_zero, List.set_cons_succ]
  (refine wpAnyH_take (i := 15) (v := ?_) rfl (by kernel_rfl) (by kernel_rfl) (by kernel_rfl) (fun _ _ _ h => h) (Or.inl ⟨by rfl, ?_⟩) (by assumption) ?_); rotate_left; focus (intro w hSw; (rcases hSw.out with rfl | rfl <;> (try go_simp) <;> (try with_reducible rfl))); try simp only [Act.put, List.setIfInBounds_toArray, List.set_cons_zero, List.set_cons_succ]
  (refine wpAnyH_take (i := 16) (v := ?_) rfl (by kernel_rfl) (by kernel_rfl) (by kernel_rfl) (fun _ _ _ h => h) (Or.inl ⟨by rfl, ?_⟩) (by assumption) ?_); rotate_left; focus (intro w hSw; (rcases hSw.out with rfl | rfl <;> (try go_simp) <;> (try with_reducible rfl))); try simp only [Act.put, List.setIfInBounds_toArray, List.set_cons_zero, List.set_cons_succ]
  (refine wpAnyH_take (i := 17) (v := ?_) rfl (by kernel_rfl) (by kernel_rfl) (by kernel_rfl) (fun _ _ _ h => h) (Or.inl ⟨by rfl, ?_⟩) (by assumption) ?_); rotate_left; focus (intro w hSw; (rcases hSw.out with rfl | rfl <;> (try go_simp) <;> (try with_reducible rfl))); try simp only [Act.put, List.setIfInBounds_toArray, List.set_cons_zero, List.set_cons_succ]
  (refine wpAnyH_take (i := 20) (v := ?_) rfl (by kernel_rfl) (by kernel_rfl) (by kernel_rfl) (fun _ _ _ h => h) (Or.inl ⟨by rfl, ?_⟩) (by assumption) ?_); rotate_left; focus (intro w hSw; (rcases hSw.out with rfl | rfl <;> (try go_simp) <;> (try with_reducible rfl))); try simp only [Act.put, List.setIfInBounds_toArray, List.set_cons_zero, List.set_cons_succ]
  (refine wpAnyH_take (i := 21) (v := ?_) rfl (by kernel_rfl) (by kernel_rfl) (by kernel_rfl) (fun _ _ _ h => h) (Or.inl ⟨by rfl, ?_⟩) (by assumption) ?_); rotate_left; focus (intro w hSw; (rcases hSw.out with rfl | rfl <;> (try go_simp) <;> (try with_reducible rfl))); try simp only [Act.put, List.setIfInBounds_toArray, List.set_cons_zero, List.set_cons_succ]
  (refine wpAnyH_take (i := 22) (v := ?_) rfl (by kernel_rfl) (by kernel_rfl) (by kernel_rfl) (fun _ _ _ h => h) (Or.inl ⟨by rfl, ?_⟩) (by assumption) ?_); rotate_left; focus (intro w hSw; (rcases hSw.out with rfl | rfl <;> (try go_simp) <;> (try with_reducible rfl))); try simp only [Act.put, List.setIfInBounds_toArray, List.set_cons_zero, List.set_cons_succ]
  (refine wpAnyH_take (i := 23) (v := ?_) rfl (by kernel_rfl) (by kernel_rfl) (by kernel_rfl) (fun _ _ _ h => h) (Or.inl ⟨by rfl, ?_⟩) (by assumption) ?_); rotate_left; focus (intro w hSw; (rcases hSw.out with rfl | rfl <;> (try go_simp) <;> (try with_reducible rfl))); try simp only [Act.put, List.setIfInBounds_toArray, List.set_cons_zero, List.set_cons_succ]
  (refine wpAnyH_take (i := 26) (v := ?_) rfl (by kernel_rfl) (by kernel_rfl) (by kernel_rfl) (fun _ _ _ h => h) (Or.inl ⟨by rfl, ?_⟩) (by assumption) ?_); rotate_left; focus (intro w hSw; (rcases hSw.out with rfl | rfl <;> (try go_simp) <;> (try with_reducible rfl))); try simp only [Act.put, List.setIfInBounds_toArray, List.set_cons_zero, List.set_cons_succ]
  (refine wpAnyH_take (i := 27) (v := ?_) rfl (by kernel_rfl) (by kernel_rfl) (by kernel_rfl) (fun _ _ _ h => h) (Or.inl ⟨by rfl, ?_⟩) (by assumption) ?_); rotate_left; focus (intro w hSw; (rcases hSw.out with rfl | rfl <;> (try go_simp) <;> (try with_reducible rfl))); try simp only [Act.put, List.setIfInBounds_toArray, List.set_cons_zero, List.set_cons_succ]
  (refine wpAnyH_take (i := 28) (v := ?_) rfl (by kernel_rfl) (by kernel_rfl) (by kernel_rfl) (fun _ _ _ h => h) (Or.inl ⟨by rfl, ?_⟩) (by assumption) ?_); rotate_left; focus (intro w hSw; (rcases hSw.out with rfl | rfl <;> (try go_simp) <;> (try with_reducible rfl))); try simp only [Act.put, List.setIfInBounds_toArray, List.set_cons_zero, List.set_cons_succ]
  (refine wpAnyH_take (i := 29) (v := ?_) rfl (by kernel_rfl) (by kernel_rfl) (by kernel_rfl) (fun _ _ _ h => h) (Or.inl ⟨by rfl, ?_⟩) (by assumption) ?_); rotate_left; focus (intro w hSw; (rcases hSw.out with rfl | rfl <;> (try go_simp) <;> (try with_reducible rfl))); try simp only [Act.put, List.setIfInBounds_toArray, List.set_cons_zero, List.set_cons_succ]
  refine wpAnyH_ready (rs := [0]) (by kernel_rfl) (by simp) ?_
  refine AllReadyH.cons (i := 0) rfl (fun K hK => ?_) AllReadyH.nil
  go_simp
  refine (spec_l13Modes _).mono ?_; rintro e' w1 ⟨rfl, rfl⟩
  (try go_wp2_with fail)
  refine hK.out _ _ ?_ (fun hHeld => ?_)
  · exact (Or.inr rfl : _ ∨ _)
  clear hK K
  try simp only [Act.put, List.setIfInBounds_toArray, List.set_cons_zero, List.set_cons_succ]
  refine wpAnyH_mono (S' := fun W => Hid (W = w.drew.alloc (Obj.cells #[.string ⟨#[115, 116, 111, 112]⟩, .string ⟨#[114, 101, 97, 100, 121]⟩, .string ⟨#[114, 117, 110]⟩, .string ⟨#[99, 114, 101, 101, 112]⟩, .string ⟨#[102, 97, 117, 108, 116]⟩] 9))) (fun _ h => (Or.inr h : _ ∨ _)) _ _ _ _ ?_
  clear hHeld
  have hHeld : Hid (w.drew.alloc (Obj.cells #[.string ⟨#[115, 116, 111, 112]⟩, .string ⟨#[114, 101, 97, 100, 121]⟩, .string ⟨#[114, 117, 110]⟩, .string ⟨#[99, 114, 101, 101, 112]⟩, .string ⟨#[102, 97, 117, 108, 116]⟩] 9) = w.drew.alloc (Obj.cells #[.string ⟨#[115, 116, 111, 112]⟩, .string ⟨#[114, 101, 97, 100, 121]⟩, .string ⟨#[114, 117, 110]⟩, .string ⟨#[99, 114, 101, 101, 112]⟩, .string ⟨#[102, 97, 117, 108, 116]⟩] 9)) := rfl
  (refine wpAnyH_take (i := 5) (v := ?_) rfl (by kernel_rfl) (by kernel_rfl) (by kernel_rfl) (fun _ _ _ h => h) (Or.inl ⟨by rfl, ?_⟩) (by assumption) ?_); rotate_left; focus (intro w hSw; (obtain rfl := hSw.out; (try go_simp); (try with_reducible rfl))); try simp only [Act.put, List.setIfInBounds_toArray, List.set_cons_zero, List.set_cons_succ]
  (refine wpAnyH_take (i := 6) (v := ?_) rfl (by kernel_rfl) (by kernel_rfl) (by kernel_rfl) (fun _ _ _ h => h) (Or.inl ⟨by rfl, ?_⟩) (by assumption) ?_); rotate_left; focus (intro w hSw; (obtain rfl := hSw.out; (try go_simp); (try with_reducible rfl))); try simp only [Act.put, List.setIfInBounds_toArray, List.set_cons_zero, List.set_cons_succ]
  (refine wpAnyH_take (i := 7) (v := ?_) rfl (by kernel_rfl) (by kernel_rfl) (by kernel_rfl) (fun _ _ _ h => h) (Or.inl ⟨by rfl, ?_⟩) (by assumption) ?_); rotate_left; focus (intro w hSw; (obtain rfl := hSw.out; (try go_simp); (try with_reducible rfl))); try simp only [Act.put, List.setIfInBounds_toArray, List.set_cons_zero, List.set_cons_succ]
  refine wpAnyH_ready (rs := [12]) (by kernel_rfl) (by simp) ?_
  refine AllReadyH.cons (i := 12) rfl (fun K hK => ?_) AllReadyH.nil
  go_simp
  refine (spec_l13Bit _ _ _).mono ?_; rintro e' w1 ⟨rfl, rfl⟩
  (try go_wp2_with fail)
  refine hK.out _ _ ?_ (fun hHeld => ?_)
  · rfl
  clear hK K
  try simp only [Act.put, List.setIfInBounds_toArray, List.set_cons_zero, List.set_cons_succ]
  (refine wpAnyH_take (i := 13) (v := ?_) rfl (by kernel_rfl) (by kernel_rfl) (by kernel_rfl) (fun _ _ _ h => h) (Or.inl ⟨by rfl, ?_⟩) (by assumption) ?_); rotate_left; focus (intro w hSw; (obtain rfl := hSw.out; (try go_simp); (try with_reducible rfl))); try simp only [Act.put, List.setIfInBounds_toArray, List.set_cons_zero, List.set_cons_succ]
  refine wpAnyH_ready (rs := [18]) (by kernel_rfl) (by simp) ?_
  refine AllReadyH.cons (i := 18) rfl (fun K hK => ?_) AllReadyH.nil
  go_simp
  refine (spec_l13Bit _ _ _).mono ?_; rintro e' w1 ⟨rfl, rfl⟩
  (try go_wp2_with fail)
  refine hK.out _ _ ?_ (fun hHeld => ?_)
  · rfl
  clear hK K
  try simp only [Act.put, List.setIfInBounds_toArray, List.set_cons_zero, List.set_cons_succ]
  (refine wpAnyH_take (i := 19) (v := ?_) rfl (by kernel_rfl) (by kernel_rfl) (by kernel_rfl) (fun _ _ _ h => h) (Or.inl ⟨by rfl, ?_⟩) (by assumption) ?_); rotate_left; focus (intro w hSw; (obtain rfl := hSw.out; (try go_simp); (try with_reducible rfl))); try simp only [Act.put, List.setIfInBounds_toArray, List.set_cons_zero, List.set_cons_succ]
  refine wpAnyH_ready (rs := [24]) (by kernel_rfl) (by simp) ?_
  refine AllReadyH.cons (i := 24) rfl (fun K hK => ?_) AllReadyH.nil
  go_simp
  refine (spec_l13Bit _ _ _).mono ?_; rintro e' w1 ⟨rfl, rfl⟩
  (try go_wp2_with fail)
  refine hK.out _ _ ?_ (fun hHeld => ?_)
  · rfl
  clear hK K
  try simp only [Act.put, List.setIfInBounds_toArray, List.set_cons_zero, List.set_cons_succ]
  (refine wpAnyH_take (i := 25) (v := ?_) rfl (by kernel_rfl) (by kernel_rfl) (by kernel_rfl) (fun _ _ _ h => h) (Or.inl ⟨by rfl, ?_⟩) (by assumption) ?_); rotate_left; focus (intro w hSw; (obtain rfl := hSw.out; (try go_simp); (try with_reducible rfl))); try simp only [Act.put, List.setIfInBounds_toArray, List.set_cons_zero, List.set_cons_succ]
  refine wpAnyH_ready (rs := [30]) (by kernel_rfl) (by simp) ?_
  refine AllReadyH.cons (i := 30) rfl (fun K hK => ?_) AllReadyH.nil
  go_simp
  refine (spec_l13Bit _ _ _).mono ?_; rintro e' w1 ⟨rfl, rfl⟩
  (try go_wp2_with fail)
  refine hK.out _ _ ?_ (fun hHeld => ?_)
  · rfl
  clear hK K
  try simp only [Act.put, List.setIfInBounds_toArray, List.set_cons_zero, List.set_cons_succ]
  (refine wpAnyH_take (i := 31) (v := ?_) rfl (by kernel_rfl) (by kernel_rfl) (by kernel_rfl) (fun _ _ _ h => h) (Or.inl ⟨by rfl, ?_⟩) (by assumption) ?_); rotate_left; focus (intro w hSw; (obtain rfl := hSw.out; (try go_simp); (try with_reducible rfl))); try simp only [Act.put, List.setIfInBounds_toArray, List.set_cons_zero, List.set_cons_succ]
  (refine wpAnyH_take (i := 32) (v := ?_) rfl (by kernel_rfl) (by kernel_rfl) (by kernel_rfl) (fun _ _ _ h => h) (Or.inl ⟨by rfl, ?_⟩) (by assumption) ?_); rotate_left; focus (intro w hSw; (obtain rfl := hSw.out; (try go_simp); (try with_reducible rfl))); try simp only [Act.put, List.setIfInBounds_toArray, List.set_cons_zero, List.set_cons_succ]
  refine wpAnyH_done (by kernel_rfl) ?_ _
  go_wp2
  go_returns
  exact ⟨rfl, by go_grown⟩
set_option maxRecDepth 100000 in
set_option maxHeartbeats 1000000 in
theorem spec_l13Text_1 (g k : Nat) (o a b e : Bool) (w : World) (hg : g < w.heap.size)
    (c0 : w.cell? ⟨g, k, none⟩ = some (.int .i64 1)) (c1 : w.cell? ⟨g, k + 1, none⟩ = some (.bool o)) (c2 : w.cell? ⟨g, k + 2, none⟩ = some (.bool a)) (c3 : w.cell? ⟨g, k + 3, none⟩ = some (.bool b)) (c4 : w.cell? ⟨g, k + 4, none⟩ = some (.bool e)) :
    Calls Try.prog 32 #[.pointer (some ⟨g, k, none⟩)] w fun e' w' => e' = .returned (.string (stateText 1 o a b e)) ∧ Below w.heap.size w w' := by
  obtain ⟨a1, a2, a3, a4, a5⟩ := stateText_adds' (P := Try.prog) 1 o a b e ⟨#[114, 101, 97, 100, 121]⟩ rfl
  have hfin : stateText 1 o a b e = modeName 1 ++ ⟨#[32]⟩ ++ sgn o ⟨#[111]⟩ ++ sgn a ⟨#[97]⟩ ++ sgn b ⟨#[98]⟩ ++ sgn e ⟨#[101]⟩ := rfl
  rw [hfin]
  generalize modeName 1 ++ ⟨#[32]⟩ = T0 at *
  generalize T0 ++ sgn o ⟨#[111]⟩ = T1 at *
  generalize T1 ++ sgn a ⟨#[97]⟩ = T2 at *
  generalize T2 ++ sgn b ⟨#[98]⟩ = T3 at *
  generalize T3 ++ sgn e ⟨#[101]⟩ = T4 at *
  clear hfin
  go_enter Try.func32, Try.ntmps32
  go_wp2
  refine wp_region_held_drew (S := fun W => Hid (W = w.drew ∨ W = w.drew.alloc (Obj.cells #[.string ⟨#[115, 116, 111, 112]⟩, .string ⟨#[114, 101, 97, 100, 121]⟩, .string ⟨#[114, 117, 110]⟩, .string ⟨#[99, 114, 101, 101, 112]⟩, .string ⟨#[102, 97, 117, 108, 116]⟩] 9))) (by kernel_rfl) (.inl rfl) (fun hHeld => ?_)
  (refine wpAnyH_take (i := 1) (v := ?_) rfl (by kernel_rfl) (by kernel_rfl) (by kernel_rfl) (fun _ _ _ h => h) (Or.inl ⟨by rfl, ?_⟩) (by assumption) ?_); rotate_left; focus (intro w hSw; (rcases hSw.out with rfl | rfl <;> (try go_simp) <;> (try with_reducible rfl))); try simp only [Act.put, List.setIfInBounds_toArray, List.set_cons_zero, List.set_cons_succ]
  (refine wpAnyH_take (i := 2) (v := ?_) rfl (by kernel_rfl) (by kernel_rfl) (by kernel_rfl) (fun _ _ _ h => h) (Or.inl ⟨by rfl, ?_⟩) (by assumption) ?_); rotate_left; focus (intro w hSw; (rcases hSw.out with rfl | rfl <;> (try go_simp) <;> (try with_reducible rfl))); try simp only [Act.put, List.setIfInBounds_toArray, List.set_cons_zero, List.set_cons_succ]
  (refine wpAnyH_take (i := 3) (v := ?_) rfl (by kernel_rfl) (by kernel_rfl) (by kernel_rfl) (fun _ _ _ h => h) (Or.inl ⟨by rfl, ?_⟩) (by assumption) ?_); rotate_left; focus (intro w hSw; (rcases hSw.out with rfl | rfl <;> (try go_simp) <;> (try with_reducible rfl))); try simp only [Act.put, List.setIfInBounds_toArray, List.set_cons_zero, List.set_cons_succ]
  (refine wpAnyH_take (i := 4) (v := ?_) rfl (by kernel_rfl) (by kernel_rfl) (by kernel_rfl) (fun _ _ _ h => h) (Or.inl ⟨by rfl, ?_⟩) (by assumption) ?_); rotate_left; focus (intro w hSw; (rcases hSw.out with rfl | rfl <;> (try go_simp) <;> (try with_reducible rfl))); try simp only [Act.put, List.setIfInBounds_toArray, List.set_cons_zero, List.set_cons_succ]
  (refine wpAnyH_take (i := 8) (v := ?_) rfl (by kernel_rfl) (by kernel_rfl) (by kernel_rfl) (fun _ _ _ h => h) (Or.inl ⟨by rfl, ?_⟩) (by assumption) ?_); rotate_left; focus (intro w hSw; (rcases hSw.out with rfl | rfl <;> (try go_simp) <;> (try with_reducible rfl))); try simp only [Act.put, List.setIfInBounds_toArray, List.set_cons_zero, List.set_cons_succ]
  (refine wpAnyH_take (i := 9) (v := ?_) rfl (by kernel_rfl) (by kernel_rfl) (by kernel_rfl) (fun _ _ _ h => h) (Or.inl ⟨by rfl, ?_⟩) (by assumption) ?_); rotate_left; focus (intro w hSw; (rcases hSw.out with rfl | rfl <;> (try go_simp) <;> (try with_reducible rfl))); try simp only [Act.put, List.setIfInBounds_toArray, List.set_cons_zero, List.set_cons_succ]
  (refine wpAnyH_take (i := 10) (v := ?_) rfl (by kernel_rfl) (by kernel_rfl) (by kernel_rfl) (fun _ _ _ h => h) (Or.inl ⟨by rfl, ?_⟩) (by assumption) ?_); rotate_left; focus (intro w hSw; (rcases hSw.out with rfl | rfl <;> (try go_simp) <;> (try with_reducible rfl))); try simp only [Act.put, List.setIfInBounds_toArray, List.set_cons_zero, List.set_cons_succ]
  (refine wpAnyH_take (i := 11) (v := ?_) rfl (by kernel_rfl) (by kernel_rfl) (by kernel_rfl) (fun _ _ _ h => h) (Or.inl ⟨by rfl, ?_⟩) (by assumption) ?_); rotate_left; focus (intro w hSw; (rcases hSw.out with rfl | rfl <;> (try go_simp) <;> (try with_reducible rfl))); try simp only [Act.put, List.setIfInBounds_toArray, List.set_cons_zero, List.set_cons_succ]
  (refine wpAnyH_take (i := 14) (v := ?_) rfl (by kernel_rfl) (by kernel_rfl) (by kernel_rfl) (fun _ _ _ h => h) (Or.inl ⟨by rfl, ?_⟩) (by assumption) ?_); rotate_left; focus (intro w hSw; (rcases hSw.out with rfl | rfl <;> (try go_simp) <;> (try with_reducible rfl))); try simp only [Act.put, List.setIfInBounds_toArray, List.set_cons_zero, List.set_cons_succ]
  (refine wpAnyH_take (i := 15) (v := ?_) rfl (by kernel_rfl) (by kernel_rfl) (by kernel_rfl) (fun _ _ _ h => h) (Or.inl ⟨by rfl, ?_⟩) (by assumption) ?_); rotate_left; focus (intro w hSw; (rcases hSw.out with rfl | rfl <;> (try go_simp) <;> (try with_reducible rfl))); try simp only [Act.put, List.setIfInBounds_toArray, List.set_cons_zero, List.set_cons_succ]
  (refine wpAnyH_take (i := 16) (v := ?_) rfl (by kernel_rfl) (by kernel_rfl) (by kernel_rfl) (fun _ _ _ h => h) (Or.inl ⟨by rfl, ?_⟩) (by assumption) ?_); rotate_left; focus (intro w hSw; (rcases hSw.out with rfl | rfl <;> (try go_simp) <;> (try with_reducible rfl))); try simp only [Act.put, List.setIfInBounds_toArray, List.set_cons_zero, List.set_cons_succ]
  (refine wpAnyH_take (i := 17) (v := ?_) rfl (by kernel_rfl) (by kernel_rfl) (by kernel_rfl) (fun _ _ _ h => h) (Or.inl ⟨by rfl, ?_⟩) (by assumption) ?_); rotate_left; focus (intro w hSw; (rcases hSw.out with rfl | rfl <;> (try go_simp) <;> (try with_reducible rfl))); try simp only [Act.put, List.setIfInBounds_toArray, List.set_cons_zero, List.set_cons_succ]
  (refine wpAnyH_take (i := 20) (v := ?_) rfl (by kernel_rfl) (by kernel_rfl) (by kernel_rfl) (fun _ _ _ h => h) (Or.inl ⟨by rfl, ?_⟩) (by assumption) ?_); rotate_left; focus (intro w hSw; (rcases hSw.out with rfl | rfl <;> (try go_simp) <;> (try with_reducible rfl))); try simp only [Act.put, List.setIfInBounds_toArray, List.set_cons_zero, List.set_cons_succ]
  (refine wpAnyH_take (i := 21) (v := ?_) rfl (by kernel_rfl) (by kernel_rfl) (by kernel_rfl) (fun _ _ _ h => h) (Or.inl ⟨by rfl, ?_⟩) (by assumption) ?_); rotate_left; focus (intro w hSw; (rcases hSw.out with rfl | rfl <;> (try go_simp) <;> (try with_reducible rfl))); try simp only [Act.put, List.setIfInBounds_toArray, List.set_cons_zero, List.set_cons_succ]
  (refine wpAnyH_take (i := 22) (v := ?_) rfl (by kernel_rfl) (by kernel_rfl) (by kernel_rfl) (fun _ _ _ h => h) (Or.inl ⟨by rfl, ?_⟩) (by assumption) ?_); rotate_left; focus (intro w hSw; (rcases hSw.out with rfl | rfl <;> (try go_simp) <;> (try with_reducible rfl))); try simp only [Act.put, List.setIfInBounds_toArray, List.set_cons_zero, List.set_cons_succ]
  (refine wpAnyH_take (i := 23) (v := ?_) rfl (by kernel_rfl) (by kernel_rfl) (by kernel_rfl) (fun _ _ _ h => h) (Or.inl ⟨by rfl, ?_⟩) (by assumption) ?_); rotate_left; focus (intro w hSw; (rcases hSw.out with rfl | rfl <;> (try go_simp) <;> (try with_reducible rfl))); try simp only [Act.put, List.setIfInBounds_toArray, List.set_cons_zero, List.set_cons_succ]
  (refine wpAnyH_take (i := 26) (v := ?_) rfl (by kernel_rfl) (by kernel_rfl) (by kernel_rfl) (fun _ _ _ h => h) (Or.inl ⟨by rfl, ?_⟩) (by assumption) ?_); rotate_left; focus (intro w hSw; (rcases hSw.out with rfl | rfl <;> (try go_simp) <;> (try with_reducible rfl))); try simp only [Act.put, List.setIfInBounds_toArray, List.set_cons_zero, List.set_cons_succ]
  (refine wpAnyH_take (i := 27) (v := ?_) rfl (by kernel_rfl) (by kernel_rfl) (by kernel_rfl) (fun _ _ _ h => h) (Or.inl ⟨by rfl, ?_⟩) (by assumption) ?_); rotate_left; focus (intro w hSw; (rcases hSw.out with rfl | rfl <;> (try go_simp) <;> (try with_reducible rfl))); try simp only [Act.put, List.setIfInBounds_toArray, List.set_cons_zero, List.set_cons_succ]
  (refine wpAnyH_take (i := 28) (v := ?_) rfl (by kernel_rfl) (by kernel_rfl) (by kernel_rfl) (fun _ _ _ h => h) (Or.inl ⟨by rfl, ?_⟩) (by assumption) ?_); rotate_left; focus (intro w hSw; (rcases hSw.out with rfl | rfl <;> (try go_simp) <;> (try with_reducible rfl))); try simp only [Act.put, List.setIfInBounds_toArray, List.set_cons_zero, List.set_cons_succ]
  (refine wpAnyH_take (i := 29) (v := ?_) rfl (by kernel_rfl) (by kernel_rfl) (by kernel_rfl) (fun _ _ _ h => h) (Or.inl ⟨by rfl, ?_⟩) (by assumption) ?_); rotate_left; focus (intro w hSw; (rcases hSw.out with rfl | rfl <;> (try go_simp) <;> (try with_reducible rfl))); try simp only [Act.put, List.setIfInBounds_toArray, List.set_cons_zero, List.set_cons_succ]
  refine wpAnyH_ready (rs := [0]) (by kernel_rfl) (by simp) ?_
  refine AllReadyH.cons (i := 0) rfl (fun K hK => ?_) AllReadyH.nil
  go_simp
  refine (spec_l13Modes _).mono ?_; rintro e' w1 ⟨rfl, rfl⟩
  (try go_wp2_with fail)
  refine hK.out _ _ ?_ (fun hHeld => ?_)
  · exact (Or.inr rfl : _ ∨ _)
  clear hK K
  try simp only [Act.put, List.setIfInBounds_toArray, List.set_cons_zero, List.set_cons_succ]
  refine wpAnyH_mono (S' := fun W => Hid (W = w.drew.alloc (Obj.cells #[.string ⟨#[115, 116, 111, 112]⟩, .string ⟨#[114, 101, 97, 100, 121]⟩, .string ⟨#[114, 117, 110]⟩, .string ⟨#[99, 114, 101, 101, 112]⟩, .string ⟨#[102, 97, 117, 108, 116]⟩] 9))) (fun _ h => (Or.inr h : _ ∨ _)) _ _ _ _ ?_
  clear hHeld
  have hHeld : Hid (w.drew.alloc (Obj.cells #[.string ⟨#[115, 116, 111, 112]⟩, .string ⟨#[114, 101, 97, 100, 121]⟩, .string ⟨#[114, 117, 110]⟩, .string ⟨#[99, 114, 101, 101, 112]⟩, .string ⟨#[102, 97, 117, 108, 116]⟩] 9) = w.drew.alloc (Obj.cells #[.string ⟨#[115, 116, 111, 112]⟩, .string ⟨#[114, 101, 97, 100, 121]⟩, .string ⟨#[114, 117, 110]⟩, .string ⟨#[99, 114, 101, 101, 112]⟩, .string ⟨#[102, 97, 117, 108, 116]⟩] 9)) := rfl
  (refine wpAnyH_take (i := 5) (v := ?_) rfl (by kernel_rfl) (by kernel_rfl) (by kernel_rfl) (fun _ _ _ h => h) (Or.inl ⟨by rfl, ?_⟩) (by assumption) ?_); rotate_left; focus (intro w hSw; (obtain rfl := hSw.out; (try go_simp); (try with_reducible rfl))); try simp only [Act.put, List.setIfInBounds_toArray, List.set_cons_zero, List.set_cons_succ]
  (refine wpAnyH_take (i := 6) (v := ?_) rfl (by kernel_rfl) (by kernel_rfl) (by kernel_rfl) (fun _ _ _ h => h) (Or.inl ⟨by rfl, ?_⟩) (by assumption) ?_); rotate_left; focus (intro w hSw; (obtain rfl := hSw.out; (try go_simp); (try with_reducible rfl))); try simp only [Act.put, List.setIfInBounds_toArray, List.set_cons_zero, List.set_cons_succ]
  (refine wpAnyH_take (i := 7) (v := ?_) rfl (by kernel_rfl) (by kernel_rfl) (by kernel_rfl) (fun _ _ _ h => h) (Or.inl ⟨by rfl, ?_⟩) (by assumption) ?_); rotate_left; focus (intro w hSw; (obtain rfl := hSw.out; (try go_simp); (try with_reducible rfl))); try simp only [Act.put, List.setIfInBounds_toArray, List.set_cons_zero, List.set_cons_succ]
  refine wpAnyH_ready (rs := [12]) (by kernel_rfl) (by simp) ?_
  refine AllReadyH.cons (i := 12) rfl (fun K hK => ?_) AllReadyH.nil
  go_simp
  refine (spec_l13Bit _ _ _).mono ?_; rintro e' w1 ⟨rfl, rfl⟩
  (try go_wp2_with fail)
  refine hK.out _ _ ?_ (fun hHeld => ?_)
  · rfl
  clear hK K
  try simp only [Act.put, List.setIfInBounds_toArray, List.set_cons_zero, List.set_cons_succ]
  (refine wpAnyH_take (i := 13) (v := ?_) rfl (by kernel_rfl) (by kernel_rfl) (by kernel_rfl) (fun _ _ _ h => h) (Or.inl ⟨by rfl, ?_⟩) (by assumption) ?_); rotate_left; focus (intro w hSw; (obtain rfl := hSw.out; (try go_simp); (try with_reducible rfl))); try simp only [Act.put, List.setIfInBounds_toArray, List.set_cons_zero, List.set_cons_succ]
  refine wpAnyH_ready (rs := [18]) (by kernel_rfl) (by simp) ?_
  refine AllReadyH.cons (i := 18) rfl (fun K hK => ?_) AllReadyH.nil
  go_simp
  refine (spec_l13Bit _ _ _).mono ?_; rintro e' w1 ⟨rfl, rfl⟩
  (try go_wp2_with fail)
  refine hK.out _ _ ?_ (fun hHeld => ?_)
  · rfl
  clear hK K
  try simp only [Act.put, List.setIfInBounds_toArray, List.set_cons_zero, List.set_cons_succ]
  (refine wpAnyH_take (i := 19) (v := ?_) rfl (by kernel_rfl) (by kernel_rfl) (by kernel_rfl) (fun _ _ _ h => h) (Or.inl ⟨by rfl, ?_⟩) (by assumption) ?_); rotate_left; focus (intro w hSw; (obtain rfl := hSw.out; (try go_simp); (try with_reducible rfl))); try simp only [Act.put, List.setIfInBounds_toArray, List.set_cons_zero, List.set_cons_succ]
  refine wpAnyH_ready (rs := [24]) (by kernel_rfl) (by simp) ?_
  refine AllReadyH.cons (i := 24) rfl (fun K hK => ?_) AllReadyH.nil
  go_simp
  refine (spec_l13Bit _ _ _).mono ?_; rintro e' w1 ⟨rfl, rfl⟩
  (try go_wp2_with fail)
  refine hK.out _ _ ?_ (fun hHeld => ?_)
  · rfl
  clear hK K
  try simp only [Act.put, List.setIfInBounds_toArray, List.set_cons_zero, List.set_cons_succ]
  (refine wpAnyH_take (i := 25) (v := ?_) rfl (by kernel_rfl) (by kernel_rfl) (by kernel_rfl) (fun _ _ _ h => h) (Or.inl ⟨by rfl, ?_⟩) (by assumption) ?_); rotate_left; focus (intro w hSw; (obtain rfl := hSw.out; (try go_simp); (try with_reducible rfl))); try simp only [Act.put, List.setIfInBounds_toArray, List.set_cons_zero, List.set_cons_succ]
  refine wpAnyH_ready (rs := [30]) (by kernel_rfl) (by simp) ?_
  refine AllReadyH.cons (i := 30) rfl (fun K hK => ?_) AllReadyH.nil
  go_simp
  refine (spec_l13Bit _ _ _).mono ?_; rintro e' w1 ⟨rfl, rfl⟩
  (try go_wp2_with fail)
  refine hK.out _ _ ?_ (fun hHeld => ?_)
  · rfl
  clear hK K
  try simp only [Act.put, List.setIfInBounds_toArray, List.set_cons_zero, List.set_cons_succ]
  (refine wpAnyH_take (i := 31) (v := ?_) rfl (by kernel_rfl) (by kernel_rfl) (by kernel_rfl) (fun _ _ _ h => h) (Or.inl ⟨by rfl, ?_⟩) (by assumption) ?_); rotate_left; focus (intro w hSw; (obtain rfl := hSw.out; (try go_simp); (try with_reducible rfl))); try simp only [Act.put, List.setIfInBounds_toArray, List.set_cons_zero, List.set_cons_succ]
  (refine wpAnyH_take (i := 32) (v := ?_) rfl (by kernel_rfl) (by kernel_rfl) (by kernel_rfl) (fun _ _ _ h => h) (Or.inl ⟨by rfl, ?_⟩) (by assumption) ?_); rotate_left; focus (intro w hSw; (obtain rfl := hSw.out; (try go_simp); (try with_reducible rfl))); try simp only [Act.put, List.setIfInBounds_toArray, List.set_cons_zero, List.set_cons_succ]
  refine wpAnyH_done (by kernel_rfl) ?_ _
  go_wp2
  go_returns
  exact ⟨rfl, by go_grown⟩
set_option maxRecDepth 100000 in
set_option maxHeartbeats 1000000 in
theorem spec_l13Text_2 (g k : Nat) (o a b e : Bool) (w : World) (hg : g < w.heap.size)
    (c0 : w.cell? ⟨g, k, none⟩ = some (.int .i64 2)) (c1 : w.cell? ⟨g, k + 1, none⟩ = some (.bool o)) (c2 : w.cell? ⟨g, k + 2, none⟩ = some (.bool a)) (c3 : w.cell? ⟨g, k + 3, none⟩ = some (.bool b)) (c4 : w.cell? ⟨g, k + 4, none⟩ = some (.bool e)) :
    Calls Try.prog 32 #[.pointer (some ⟨g, k, none⟩)] w fun e' w' => e' = .returned (.string (stateText 2 o a b e)) ∧ Below w.heap.size w w' := by
  obtain ⟨a1, a2, a3, a4, a5⟩ := stateText_adds' (P := Try.prog) 2 o a b e ⟨#[114, 117, 110]⟩ rfl
  have hfin : stateText 2 o a b e = modeName 2 ++ ⟨#[32]⟩ ++ sgn o ⟨#[111]⟩ ++ sgn a ⟨#[97]⟩ ++ sgn b ⟨#[98]⟩ ++ sgn e ⟨#[101]⟩ := rfl
  rw [hfin]
  generalize modeName 2 ++ ⟨#[32]⟩ = T0 at *
  generalize T0 ++ sgn o ⟨#[111]⟩ = T1 at *
  generalize T1 ++ sgn a ⟨#[97]⟩ = T2 at *
  generalize T2 ++ sgn b ⟨#[98]⟩ = T3 at *
  generalize T3 ++ sgn e ⟨#[101]⟩ = T4 at *
  clear hfin
  go_enter Try.func32, Try.ntmps32
  go_wp2
  refine wp_region_held_drew (S := fun W => Hid (W = w.drew ∨ W = w.drew.alloc (Obj.cells #[.string ⟨#[115, 116, 111, 112]⟩, .string ⟨#[114, 101, 97, 100, 121]⟩, .string ⟨#[114, 117, 110]⟩, .string ⟨#[99, 114, 101, 101, 112]⟩, .string ⟨#[102, 97, 117, 108, 116]⟩] 9))) (by kernel_rfl) (.inl rfl) (fun hHeld => ?_)
  (refine wpAnyH_take (i := 1) (v := ?_) rfl (by kernel_rfl) (by kernel_rfl) (by kernel_rfl) (fun _ _ _ h => h) (Or.inl ⟨by rfl, ?_⟩) (by assumption) ?_); rotate_left; focus (intro w hSw; (rcases hSw.out with rfl | rfl <;> (try go_simp) <;> (try with_reducible rfl))); try simp only [Act.put, List.setIfInBounds_toArray, List.set_cons_zero, List.set_cons_succ]
  (refine wpAnyH_take (i := 2) (v := ?_) rfl (by kernel_rfl) (by kernel_rfl) (by kernel_rfl) (fun _ _ _ h => h) (Or.inl ⟨by rfl, ?_⟩) (by assumption) ?_); rotate_left; focus (intro w hSw; (rcases hSw.out with rfl | rfl <;> (try go_simp) <;> (try with_reducible rfl))); try simp only [Act.put, List.setIfInBounds_toArray, List.set_cons_zero, List.set_cons_succ]
  (refine wpAnyH_take (i := 3) (v := ?_) rfl (by kernel_rfl) (by kernel_rfl) (by kernel_rfl) (fun _ _ _ h => h) (Or.inl ⟨by rfl, ?_⟩) (by assumption) ?_); rotate_left; focus (intro w hSw; (rcases hSw.out with rfl | rfl <;> (try go_simp) <;> (try with_reducible rfl))); try simp only [Act.put, List.setIfInBounds_toArray, List.set_cons_zero, List.set_cons_succ]
  (refine wpAnyH_take (i := 4) (v := ?_) rfl (by kernel_rfl) (by kernel_rfl) (by kernel_rfl) (fun _ _ _ h => h) (Or.inl ⟨by rfl, ?_⟩) (by assumption) ?_); rotate_left; focus (intro w hSw; (rcases hSw.out with rfl | rfl <;> (try go_simp) <;> (try with_reducible rfl))); try simp only [Act.put, List.setIfInBounds_toArray, List.set_cons_zero, List.set_cons_succ]
  (refine wpAnyH_take (i := 8) (v := ?_) rfl (by kernel_rfl) (by kernel_rfl) (by kernel_rfl) (fun _ _ _ h => h) (Or.inl ⟨by rfl, ?_⟩) (by assumption) ?_); rotate_left; focus (intro w hSw; (rcases hSw.out with rfl | rfl <;> (try go_simp) <;> (try with_reducible rfl))); try simp only [Act.put, List.setIfInBounds_toArray, List.set_cons_zero, List.set_cons_succ]
  (refine wpAnyH_take (i := 9) (v := ?_) rfl (by kernel_rfl) (by kernel_rfl) (by kernel_rfl) (fun _ _ _ h => h) (Or.inl ⟨by rfl, ?_⟩) (by assumption) ?_); rotate_left; focus (intro w hSw; (rcases hSw.out with rfl | rfl <;> (try go_simp) <;> (try with_reducible rfl))); try simp only [Act.put, List.setIfInBounds_toArray, List.set_cons_zero, List.set_cons_succ]
  (refine wpAnyH_take (i := 10) (v := ?_) rfl (by kernel_rfl) (by kernel_rfl) (by kernel_rfl) (fun _ _ _ h => h) (Or.inl ⟨by rfl, ?_⟩) (by assumption) ?_); rotate_left; focus (intro w hSw; (rcases hSw.out with rfl | rfl <;> (try go_simp) <;> (try with_reducible rfl))); try simp only [Act.put, List.setIfInBounds_toArray, List.set_cons_zero, List.set_cons_succ]
  (refine wpAnyH_take (i := 11) (v := ?_) rfl (by kernel_rfl) (by kernel_rfl) (by kernel_rfl) (fun _ _ _ h => h) (Or.inl ⟨by rfl, ?_⟩) (by assumption) ?_); rotate_left; focus (intro w hSw; (rcases hSw.out with rfl | rfl <;> (try go_simp) <;> (try with_reducible rfl))); try simp only [Act.put, List.setIfInBounds_toArray, List.set_cons_zero, List.set_cons_succ]
  (refine wpAnyH_take (i := 14) (v := ?_) rfl (by kernel_rfl) (by kernel_rfl) (by kernel_rfl) (fun _ _ _ h => h) (Or.inl ⟨by rfl, ?_⟩) (by assumption) ?_); rotate_left; focus (intro w hSw; (rcases hSw.out with rfl | rfl <;> (try go_simp) <;> (try with_reducible rfl))); try simp only [Act.put, List.setIfInBounds_toArray, List.set_cons_zero, List.set_cons_succ]
  (refine wpAnyH_take (i := 15) (v := ?_) rfl (by kernel_rfl) (by kernel_rfl) (by kernel_rfl) (fun _ _ _ h => h) (Or.inl ⟨by rfl, ?_⟩) (by assumption) ?_); rotate_left; focus (intro w hSw; (rcases hSw.out with rfl | rfl <;> (try go_simp) <;> (try with_reducible rfl))); try simp only [Act.put, List.setIfInBounds_toArray, List.set_cons_zero, List.set_cons_succ]
  (refine wpAnyH_take (i := 16) (v := ?_) rfl (by kernel_rfl) (by kernel_rfl) (by kernel_rfl) (fun _ _ _ h => h) (Or.inl ⟨by rfl, ?_⟩) (by assumption) ?_); rotate_left; focus (intro w hSw; (rcases hSw.out with rfl | rfl <;> (try go_simp) <;> (try with_reducible rfl))); try simp only [Act.put, List.setIfInBounds_toArray, List.set_cons_zero, List.set_cons_succ]
  (refine wpAnyH_take (i := 17) (v := ?_) rfl (by kernel_rfl) (by kernel_rfl) (by kernel_rfl) (fun _ _ _ h => h) (Or.inl ⟨by rfl, ?_⟩) (by assumption) ?_); rotate_left; focus (intro w hSw; (rcases hSw.out with rfl | rfl <;> (try go_simp) <;> (try with_reducible rfl))); try simp only [Act.put, List.setIfInBounds_toArray, List.set_cons_zero, List.set_cons_succ]
  (refine wpAnyH_take (i := 20) (v := ?_) rfl (by kernel_rfl) (by kernel_rfl) (by kernel_rfl) (fun _ _ _ h => h) (Or.inl ⟨by rfl, ?_⟩) (by assumption) ?_); rotate_left; focus (intro w hSw; (rcases hSw.out with rfl | rfl <;> (try go_simp) <;> (try with_reducible rfl))); try simp only [Act.put, List.setIfInBounds_toArray, List.set_cons_zero, List.set_cons_succ]
  (refine wpAnyH_take (i := 21) (v := ?_) rfl (by kernel_rfl) (by kernel_rfl) (by kernel_rfl) (fun _ _ _ h => h) (Or.inl ⟨by rfl, ?_⟩) (by assumption) ?_); rotate_left; focus (intro w hSw; (rcases hSw.out with rfl | rfl <;> (try go_simp) <;> (try with_reducible rfl))); try simp only [Act.put, List.setIfInBounds_toArray, List.set_cons_zero, List.set_cons_succ]
  (refine wpAnyH_take (i := 22) (v := ?_) rfl (by kernel_rfl) (by kernel_rfl) (by kernel_rfl) (fun _ _ _ h => h) (Or.inl ⟨by rfl, ?_⟩) (by assumption) ?_); rotate_left; focus (intro w hSw; (rcases hSw.out with rfl | rfl <;> (try go_simp) <;> (try with_reducible rfl))); try simp only [Act.put, List.setIfInBounds_toArray, List.set_cons_zero, List.set_cons_succ]
  (refine wpAnyH_take (i := 23) (v := ?_) rfl (by kernel_rfl) (by kernel_rfl) (by kernel_rfl) (fun _ _ _ h => h) (Or.inl ⟨by rfl, ?_⟩) (by assumption) ?_); rotate_left; focus (intro w hSw; (rcases hSw.out with rfl | rfl <;> (try go_simp) <;> (try with_reducible rfl))); try simp only [Act.put, List.setIfInBounds_toArray, List.set_cons_zero, List.set_cons_succ]
  (refine wpAnyH_take (i := 26) (v := ?_) rfl (by kernel_rfl) (by kernel_rfl) (by kernel_rfl) (fun _ _ _ h => h) (Or.inl ⟨by rfl, ?_⟩) (by assumption) ?_); rotate_left; focus (intro w hSw; (rcases hSw.out with rfl | rfl <;> (try go_simp) <;> (try with_reducible rfl))); try simp only [Act.put, List.setIfInBounds_toArray, List.set_cons_zero, List.set_cons_succ]
  (refine wpAnyH_take (i := 27) (v := ?_) rfl (by kernel_rfl) (by kernel_rfl) (by kernel_rfl) (fun _ _ _ h => h) (Or.inl ⟨by rfl, ?_⟩) (by assumption) ?_); rotate_left; focus (intro w hSw; (rcases hSw.out with rfl | rfl <;> (try go_simp) <;> (try with_reducible rfl))); try simp only [Act.put, List.setIfInBounds_toArray, List.set_cons_zero, List.set_cons_succ]
  (refine wpAnyH_take (i := 28) (v := ?_) rfl (by kernel_rfl) (by kernel_rfl) (by kernel_rfl) (fun _ _ _ h => h) (Or.inl ⟨by rfl, ?_⟩) (by assumption) ?_); rotate_left; focus (intro w hSw; (rcases hSw.out with rfl | rfl <;> (try go_simp) <;> (try with_reducible rfl))); try simp only [Act.put, List.setIfInBounds_toArray, List.set_cons_zero, List.set_cons_succ]
  (refine wpAnyH_take (i := 29) (v := ?_) rfl (by kernel_rfl) (by kernel_rfl) (by kernel_rfl) (fun _ _ _ h => h) (Or.inl ⟨by rfl, ?_⟩) (by assumption) ?_); rotate_left; focus (intro w hSw; (rcases hSw.out with rfl | rfl <;> (try go_simp) <;> (try with_reducible rfl))); try simp only [Act.put, List.setIfInBounds_toArray, List.set_cons_zero, List.set_cons_succ]
  refine wpAnyH_ready (rs := [0]) (by kernel_rfl) (by simp) ?_
  refine AllReadyH.cons (i := 0) rfl (fun K hK => ?_) AllReadyH.nil
  go_simp
  refine (spec_l13Modes _).mono ?_; rintro e' w1 ⟨rfl, rfl⟩
  (try go_wp2_with fail)
  refine hK.out _ _ ?_ (fun hHeld => ?_)
  · exact (Or.inr rfl : _ ∨ _)
  clear hK K
  try simp only [Act.put, List.setIfInBounds_toArray, List.set_cons_zero, List.set_cons_succ]
  refine wpAnyH_mono (S' := fun W => Hid (W = w.drew.alloc (Obj.cells #[.string ⟨#[115, 116, 111, 112]⟩, .string ⟨#[114, 101, 97, 100, 121]⟩, .string ⟨#[114, 117, 110]⟩, .string ⟨#[99, 114, 101, 101, 112]⟩, .string ⟨#[102, 97, 117, 108, 116]⟩] 9))) (fun _ h => (Or.inr h : _ ∨ _)) _ _ _ _ ?_
  clear hHeld
  have hHeld : Hid (w.drew.alloc (Obj.cells #[.string ⟨#[115, 116, 111, 112]⟩, .string ⟨#[114, 101, 97, 100, 121]⟩, .string ⟨#[114, 117, 110]⟩, .string ⟨#[99, 114, 101, 101, 112]⟩, .string ⟨#[102, 97, 117, 108, 116]⟩] 9) = w.drew.alloc (Obj.cells #[.string ⟨#[115, 116, 111, 112]⟩, .string ⟨#[114, 101, 97, 100, 121]⟩, .string ⟨#[114, 117, 110]⟩, .string ⟨#[99, 114, 101, 101, 112]⟩, .string ⟨#[102, 97, 117, 108, 116]⟩] 9)) := rfl
  (refine wpAnyH_take (i := 5) (v := ?_) rfl (by kernel_rfl) (by kernel_rfl) (by kernel_rfl) (fun _ _ _ h => h) (Or.inl ⟨by rfl, ?_⟩) (by assumption) ?_); rotate_left; focus (intro w hSw; (obtain rfl := hSw.out; (try go_simp); (try with_reducible rfl))); try simp only [Act.put, List.setIfInBounds_toArray, List.set_cons_zero, List.set_cons_succ]
  (refine wpAnyH_take (i := 6) (v := ?_) rfl (by kernel_rfl) (by kernel_rfl) (by kernel_rfl) (fun _ _ _ h => h) (Or.inl ⟨by rfl, ?_⟩) (by assumption) ?_); rotate_left; focus (intro w hSw; (obtain rfl := hSw.out; (try go_simp); (try with_reducible rfl))); try simp only [Act.put, List.setIfInBounds_toArray, List.set_cons_zero, List.set_cons_succ]
  (refine wpAnyH_take (i := 7) (v := ?_) rfl (by kernel_rfl) (by kernel_rfl) (by kernel_rfl) (fun _ _ _ h => h) (Or.inl ⟨by rfl, ?_⟩) (by assumption) ?_); rotate_left; focus (intro w hSw; (obtain rfl := hSw.out; (try go_simp); (try with_reducible rfl))); try simp only [Act.put, List.setIfInBounds_toArray, List.set_cons_zero, List.set_cons_succ]
  refine wpAnyH_ready (rs := [12]) (by kernel_rfl) (by simp) ?_
  refine AllReadyH.cons (i := 12) rfl (fun K hK => ?_) AllReadyH.nil
  go_simp
  refine (spec_l13Bit _ _ _).mono ?_; rintro e' w1 ⟨rfl, rfl⟩
  (try go_wp2_with fail)
  refine hK.out _ _ ?_ (fun hHeld => ?_)
  · rfl
  clear hK K
  try simp only [Act.put, List.setIfInBounds_toArray, List.set_cons_zero, List.set_cons_succ]
  (refine wpAnyH_take (i := 13) (v := ?_) rfl (by kernel_rfl) (by kernel_rfl) (by kernel_rfl) (fun _ _ _ h => h) (Or.inl ⟨by rfl, ?_⟩) (by assumption) ?_); rotate_left; focus (intro w hSw; (obtain rfl := hSw.out; (try go_simp); (try with_reducible rfl))); try simp only [Act.put, List.setIfInBounds_toArray, List.set_cons_zero, List.set_cons_succ]
  refine wpAnyH_ready (rs := [18]) (by kernel_rfl) (by simp) ?_
  refine AllReadyH.cons (i := 18) rfl (fun K hK => ?_) AllReadyH.nil
  go_simp
  refine (spec_l13Bit _ _ _).mono ?_; rintro e' w1 ⟨rfl, rfl⟩
  (try go_wp2_with fail)
  refine hK.out _ _ ?_ (fun hHeld => ?_)
  · rfl
  clear hK K
  try simp only [Act.put, List.setIfInBounds_toArray, List.set_cons_zero, List.set_cons_succ]
  (refine wpAnyH_take (i := 19) (v := ?_) rfl (by kernel_rfl) (by kernel_rfl) (by kernel_rfl) (fun _ _ _ h => h) (Or.inl ⟨by rfl, ?_⟩) (by assumption) ?_); rotate_left; focus (intro w hSw; (obtain rfl := hSw.out; (try go_simp); (try with_reducible rfl))); try simp only [Act.put, List.setIfInBounds_toArray, List.set_cons_zero, List.set_cons_succ]
  refine wpAnyH_ready (rs := [24]) (by kernel_rfl) (by simp) ?_
  refine AllReadyH.cons (i := 24) rfl (fun K hK => ?_) AllReadyH.nil
  go_simp
  refine (spec_l13Bit _ _ _).mono ?_; rintro e' w1 ⟨rfl, rfl⟩
  (try go_wp2_with fail)
  refine hK.out _ _ ?_ (fun hHeld => ?_)
  · rfl
  clear hK K
  try simp only [Act.put, List.setIfInBounds_toArray, List.set_cons_zero, List.set_cons_succ]
  (refine wpAnyH_take (i := 25) (v := ?_) rfl (by kernel_rfl) (by kernel_rfl) (by kernel_rfl) (fun _ _ _ h => h) (Or.inl ⟨by rfl, ?_⟩) (by assumption) ?_); rotate_left; focus (intro w hSw; (obtain rfl := hSw.out; (try go_simp); (try with_reducible rfl))); try simp only [Act.put, List.setIfInBounds_toArray, List.set_cons_zero, List.set_cons_succ]
  refine wpAnyH_ready (rs := [30]) (by kernel_rfl) (by simp) ?_
  refine AllReadyH.cons (i := 30) rfl (fun K hK => ?_) AllReadyH.nil
  go_simp
  refine (spec_l13Bit _ _ _).mono ?_; rintro e' w1 ⟨rfl, rfl⟩
  (try go_wp2_with fail)
  refine hK.out _ _ ?_ (fun hHeld => ?_)
  · rfl
  clear hK K
  try simp only [Act.put, List.setIfInBounds_toArray, List.set_cons_zero, List.set_cons_succ]
  (refine wpAnyH_take (i := 31) (v := ?_) rfl (by kernel_rfl) (by kernel_rfl) (by kernel_rfl) (fun _ _ _ h => h) (Or.inl ⟨by rfl, ?_⟩) (by assumption) ?_); rotate_left; focus (intro w hSw; (obtain rfl := hSw.out; (try go_simp); (try with_reducible rfl))); try simp only [Act.put, List.setIfInBounds_toArray, List.set_cons_zero, List.set_cons_succ]
  (refine wpAnyH_take (i := 32) (v := ?_) rfl (by kernel_rfl) (by kernel_rfl) (by kernel_rfl) (fun _ _ _ h => h) (Or.inl ⟨by rfl, ?_⟩) (by assumption) ?_); rotate_left; focus (intro w hSw; (obtain rfl := hSw.out; (try go_simp); (try with_reducible rfl))); try simp only [Act.put, List.setIfInBounds_toArray, List.set_cons_zero, List.set_cons_succ]
  refine wpAnyH_done (by kernel_rfl) ?_ _
  go_wp2
  go_returns
  exact ⟨rfl, by go_grown⟩
set_option maxRecDepth 100000 in
set_option maxHeartbeats 1000000 in
theorem spec_l13Text_3 (g k : Nat) (o a b e : Bool) (w : World) (hg : g < w.heap.size)
    (c0 : w.cell? ⟨g, k, none⟩ = some (.int .i64 3)) (c1 : w.cell? ⟨g, k + 1, none⟩ = some (.bool o)) (c2 : w.cell? ⟨g, k + 2, none⟩ = some (.bool a)) (c3 : w.cell? ⟨g, k + 3, none⟩ = some (.bool b)) (c4 : w.cell? ⟨g, k + 4, none⟩ = some (.bool e)) :
    Calls Try.prog 32 #[.pointer (some ⟨g, k, none⟩)] w fun e' w' => e' = .returned (.string (stateText 3 o a b e)) ∧ Below w.heap.size w w' := by
  obtain ⟨a1, a2, a3, a4, a5⟩ := stateText_adds' (P := Try.prog) 3 o a b e ⟨#[99, 114, 101, 101, 112]⟩ rfl
  have hfin : stateText 3 o a b e = modeName 3 ++ ⟨#[32]⟩ ++ sgn o ⟨#[111]⟩ ++ sgn a ⟨#[97]⟩ ++ sgn b ⟨#[98]⟩ ++ sgn e ⟨#[101]⟩ := rfl
  rw [hfin]
  generalize modeName 3 ++ ⟨#[32]⟩ = T0 at *
  generalize T0 ++ sgn o ⟨#[111]⟩ = T1 at *
  generalize T1 ++ sgn a ⟨#[97]⟩ = T2 at *
  generalize T2 ++ sgn b ⟨#[98]⟩ = T3 at *
  generalize T3 ++ sgn e ⟨#[101]⟩ = T4 at *
  clear hfin
  go_enter Try.func32, Try.ntmps32
  go_wp2
  refine wp_region_held_drew (S := fun W => Hid (W = w.drew ∨ W = w.drew.alloc (Obj.cells #[.string ⟨#[115, 116, 111, 112]⟩, .string ⟨#[114, 101, 97, 100, 121]⟩, .string ⟨#[114, 117, 110]⟩, .string ⟨#[99, 114, 101, 101, 112]⟩, .string ⟨#[102, 97, 117, 108, 116]⟩] 9))) (by kernel_rfl) (.inl rfl) (fun hHeld => ?_)
  (refine wpAnyH_take (i := 1) (v := ?_) rfl (by kernel_rfl) (by kernel_rfl) (by kernel_rfl) (fun _ _ _ h => h) (Or.inl ⟨by rfl, ?_⟩) (by assumption) ?_); rotate_left; focus (intro w hSw; (rcases hSw.out with rfl | rfl <;> (try go_simp) <;> (try with_reducible rfl))); try simp only [Act.put, List.setIfInBounds_toArray, List.set_cons_zero, List.set_cons_succ]
  (refine wpAnyH_take (i := 2) (v := ?_) rfl (by kernel_rfl) (by kernel_rfl) (by kernel_rfl) (fun _ _ _ h => h) (Or.inl ⟨by rfl, ?_⟩) (by assumption) ?_); rotate_left; focus (intro w hSw; (rcases hSw.out with rfl | rfl <;> (try go_simp) <;> (try with_reducible rfl))); try simp only [Act.put, List.setIfInBounds_toArray, List.set_cons_zero, List.set_cons_succ]
  (refine wpAnyH_take (i := 3) (v := ?_) rfl (by kernel_rfl) (by kernel_rfl) (by kernel_rfl) (fun _ _ _ h => h) (Or.inl ⟨by rfl, ?_⟩) (by assumption) ?_); rotate_left; focus (intro w hSw; (rcases hSw.out with rfl | rfl <;> (try go_simp) <;> (try with_reducible rfl))); try simp only [Act.put, List.setIfInBounds_toArray, List.set_cons_zero, List.set_cons_succ]
  (refine wpAnyH_take (i := 4) (v := ?_) rfl (by kernel_rfl) (by kernel_rfl) (by kernel_rfl) (fun _ _ _ h => h) (Or.inl ⟨by rfl, ?_⟩) (by assumption) ?_); rotate_left; focus (intro w hSw; (rcases hSw.out with rfl | rfl <;> (try go_simp) <;> (try with_reducible rfl))); try simp only [Act.put, List.setIfInBounds_toArray, List.set_cons_zero, List.set_cons_succ]
  (refine wpAnyH_take (i := 8) (v := ?_) rfl (by kernel_rfl) (by kernel_rfl) (by kernel_rfl) (fun _ _ _ h => h) (Or.inl ⟨by rfl, ?_⟩) (by assumption) ?_); rotate_left; focus (intro w hSw; (rcases hSw.out with rfl | rfl <;> (try go_simp) <;> (try with_reducible rfl))); try simp only [Act.put, List.setIfInBounds_toArray, List.set_cons_zero, List.set_cons_succ]
  (refine wpAnyH_take (i := 9) (v := ?_) rfl (by kernel_rfl) (by kernel_rfl) (by kernel_rfl) (fun _ _ _ h => h) (Or.inl ⟨by rfl, ?_⟩) (by assumption) ?_); rotate_left; focus (intro w hSw; (rcases hSw.out with rfl | rfl <;> (try go_simp) <;> (try with_reducible rfl))); try simp only [Act.put, List.setIfInBounds_toArray, List.set_cons_zero, List.set_cons_succ]
  (refine wpAnyH_take (i := 10) (v := ?_) rfl (by kernel_rfl) (by kernel_rfl) (by kernel_rfl) (fun _ _ _ h => h) (Or.inl ⟨by rfl, ?_⟩) (by assumption) ?_); rotate_left; focus (intro w hSw; (rcases hSw.out with rfl | rfl <;> (try go_simp) <;> (try with_reducible rfl))); try simp only [Act.put, List.setIfInBounds_toArray, List.set_cons_zero, List.set_cons_succ]
  (refine wpAnyH_take (i := 11) (v := ?_) rfl (by kernel_rfl) (by kernel_rfl) (by kernel_rfl) (fun _ _ _ h => h) (Or.inl ⟨by rfl, ?_⟩) (by assumption) ?_); rotate_left; focus (intro w hSw; (rcases hSw.out with rfl | rfl <;> (try go_simp) <;> (try with_reducible rfl))); try simp only [Act.put, List.setIfInBounds_toArray, List.set_cons_zero, List.set_cons_succ]
  (refine wpAnyH_take (i := 14) (v := ?_) rfl (by kernel_rfl) (by kernel_rfl) (by kernel_rfl) (fun _ _ _ h => h) (Or.inl ⟨by rfl, ?_⟩) (by assumption) ?_); rotate_left; focus (intro w hSw; (rcases hSw.out with rfl | rfl <;> (try go_simp) <;> (try with_reducible rfl))); try simp only [Act.put, List.setIfInBounds_toArray, List.set_cons_zero, List.set_cons_succ]
  (refine wpAnyH_take (i := 15) (v := ?_) rfl (by kernel_rfl) (by kernel_rfl) (by kernel_rfl) (fun _ _ _ h => h) (Or.inl ⟨by rfl, ?_⟩) (by assumption) ?_); rotate_left; focus (intro w hSw; (rcases hSw.out with rfl | rfl <;> (try go_simp) <;> (try with_reducible rfl))); try simp only [Act.put, List.setIfInBounds_toArray, List.set_cons_zero, List.set_cons_succ]
  (refine wpAnyH_take (i := 16) (v := ?_) rfl (by kernel_rfl) (by kernel_rfl) (by kernel_rfl) (fun _ _ _ h => h) (Or.inl ⟨by rfl, ?_⟩) (by assumption) ?_); rotate_left; focus (intro w hSw; (rcases hSw.out with rfl | rfl <;> (try go_simp) <;> (try with_reducible rfl))); try simp only [Act.put, List.setIfInBounds_toArray, List.set_cons_zero, List.set_cons_succ]
  (refine wpAnyH_take (i := 17) (v := ?_) rfl (by kernel_rfl) (by kernel_rfl) (by kernel_rfl) (fun _ _ _ h => h) (Or.inl ⟨by rfl, ?_⟩) (by assumption) ?_); rotate_left; focus (intro w hSw; (rcases hSw.out with rfl | rfl <;> (try go_simp) <;> (try with_reducible rfl))); try simp only [Act.put, List.setIfInBounds_toArray, List.set_cons_zero, List.set_cons_succ]
  (refine wpAnyH_take (i := 20) (v := ?_) rfl (by kernel_rfl) (by kernel_rfl) (by kernel_rfl) (fun _ _ _ h => h) (Or.inl ⟨by rfl, ?_⟩) (by assumption) ?_); rotate_left; focus (intro w hSw; (rcases hSw.out with rfl | rfl <;> (try go_simp) <;> (try with_reducible rfl))); try simp only [Act.put, List.setIfInBounds_toArray, List.set_cons_zero, List.set_cons_succ]
  (refine wpAnyH_take (i := 21) (v := ?_) rfl (by kernel_rfl) (by kernel_rfl) (by kernel_rfl) (fun _ _ _ h => h) (Or.inl ⟨by rfl, ?_⟩) (by assumption) ?_); rotate_left; focus (intro w hSw; (rcases hSw.out with rfl | rfl <;> (try go_simp) <;> (try with_reducible rfl))); try simp only [Act.put, List.setIfInBounds_toArray, List.set_cons_zero, List.set_cons_succ]
  (refine wpAnyH_take (i := 22) (v := ?_) rfl (by kernel_rfl) (by kernel_rfl) (by kernel_rfl) (fun _ _ _ h => h) (Or.inl ⟨by rfl, ?_⟩) (by assumption) ?_); rotate_left; focus (intro w hSw; (rcases hSw.out with rfl | rfl <;> (try go_simp) <;> (try with_reducible rfl))); try simp only [Act.put, List.setIfInBounds_toArray, List.set_cons_zero, List.set_cons_succ]
  (refine wpAnyH_take (i := 23) (v := ?_) rfl (by kernel_rfl) (by kernel_rfl) (by kernel_rfl) (fun _ _ _ h => h) (Or.inl ⟨by rfl, ?_⟩) (by assumption) ?_); rotate_left; focus (intro w hSw; (rcases hSw.out with rfl | rfl <;> (try go_simp) <;> (try with_reducible rfl))); try simp only [Act.put, List.setIfInBounds_toArray, List.set_cons_zero, List.set_cons_succ]
  (refine wpAnyH_take (i := 26) (v := ?_) rfl (by kernel_rfl) (by kernel_rfl) (by kernel_rfl) (fun _ _ _ h => h) (Or.inl ⟨by rfl, ?_⟩) (by assumption) ?_); rotate_left; focus (intro w hSw; (rcases hSw.out with rfl | rfl <;> (try go_simp) <;> (try with_reducible rfl))); try simp only [Act.put, List.setIfInBounds_toArray, List.set_cons_zero, List.set_cons_succ]
  (refine wpAnyH_take (i := 27) (v := ?_) rfl (by kernel_rfl) (by kernel_rfl) (by kernel_rfl) (fun _ _ _ h => h) (Or.inl ⟨by rfl, ?_⟩) (by assumption) ?_); rotate_left; focus (intro w hSw; (rcases hSw.out with rfl | rfl <;> (try go_simp) <;> (try with_reducible rfl))); try simp only [Act.put, List.setIfInBounds_toArray, List.set_cons_zero, List.set_cons_succ]
  (refine wpAnyH_take (i := 28) (v := ?_) rfl (by kernel_rfl) (by kernel_rfl) (by kernel_rfl) (fun _ _ _ h => h) (Or.inl ⟨by rfl, ?_⟩) (by assumption) ?_); rotate_left; focus (intro w hSw; (rcases hSw.out with rfl | rfl <;> (try go_simp) <;> (try with_reducible rfl))); try simp only [Act.put, List.setIfInBounds_toArray, List.set_cons_zero, List.set_cons_succ]
  (refine wpAnyH_take (i := 29) (v := ?_) rfl (by kernel_rfl) (by kernel_rfl) (by kernel_rfl) (fun _ _ _ h => h) (Or.inl ⟨by rfl, ?_⟩) (by assumption) ?_); rotate_left; focus (intro w hSw; (rcases hSw.out with rfl | rfl <;> (try go_simp) <;> (try with_reducible rfl))); try simp only [Act.put, List.setIfInBounds_toArray, List.set_cons_zero, List.set_cons_succ]
  refine wpAnyH_ready (rs := [0]) (by kernel_rfl) (by simp) ?_
  refine AllReadyH.cons (i := 0) rfl (fun K hK => ?_) AllReadyH.nil
  go_simp
  refine (spec_l13Modes _).mono ?_; rintro e' w1 ⟨rfl, rfl⟩
  (try go_wp2_with fail)
  refine hK.out _ _ ?_ (fun hHeld => ?_)
  · exact (Or.inr rfl : _ ∨ _)
  clear hK K
  try simp only [Act.put, List.setIfInBounds_toArray, List.set_cons_zero, List.set_cons_succ]
  refine wpAnyH_mono (S' := fun W => Hid (W = w.drew.alloc (Obj.cells #[.string ⟨#[115, 116, 111, 112]⟩, .string ⟨#[114, 101, 97, 100, 121]⟩, .string ⟨#[114, 117, 110]⟩, .string ⟨#[99, 114, 101, 101, 112]⟩, .string ⟨#[102, 97, 117, 108, 116]⟩] 9))) (fun _ h => (Or.inr h : _ ∨ _)) _ _ _ _ ?_
  clear hHeld
  have hHeld : Hid (w.drew.alloc (Obj.cells #[.string ⟨#[115, 116, 111, 112]⟩, .string ⟨#[114, 101, 97, 100, 121]⟩, .string ⟨#[114, 117, 110]⟩, .string ⟨#[99, 114, 101, 101, 112]⟩, .string ⟨#[102, 97, 117, 108, 116]⟩] 9) = w.drew.alloc (Obj.cells #[.string ⟨#[115, 116, 111, 112]⟩, .string ⟨#[114, 101, 97, 100, 121]⟩, .string ⟨#[114, 117, 110]⟩, .string ⟨#[99, 114, 101, 101, 112]⟩, .string ⟨#[102, 97, 117, 108, 116]⟩] 9)) := rfl
  (refine wpAnyH_take (i := 5) (v := ?_) rfl (by kernel_rfl) (by kernel_rfl) (by kernel_rfl) (fun _ _ _ h => h) (Or.inl ⟨by rfl, ?_⟩) (by assumption) ?_); rotate_left; focus (intro w hSw; (obtain rfl := hSw.out; (try go_simp); (try with_reducible rfl))); try simp only [Act.put, List.setIfInBounds_toArray, List.set_cons_zero, List.set_cons_succ]
  (refine wpAnyH_take (i := 6) (v := ?_) rfl (by kernel_rfl) (by kernel_rfl) (by kernel_rfl) (fun _ _ _ h => h) (Or.inl ⟨by rfl, ?_⟩) (by assumption) ?_); rotate_left; focus (intro w hSw; (obtain rfl := hSw.out; (try go_simp); (try with_reducible rfl))); try simp only [Act.put, List.setIfInBounds_toArray, List.set_cons_zero, List.set_cons_succ]
  (refine wpAnyH_take (i := 7) (v := ?_) rfl (by kernel_rfl) (by kernel_rfl) (by kernel_rfl) (fun _ _ _ h => h) (Or.inl ⟨by rfl, ?_⟩) (by assumption) ?_); rotate_left; focus (intro w hSw; (obtain rfl := hSw.out; (try go_simp); (try with_reducible rfl))); try simp only [Act.put, List.setIfInBounds_toArray, List.set_cons_zero, List.set_cons_succ]
  refine wpAnyH_ready (rs := [12]) (by kernel_rfl) (by simp) ?_
  refine AllReadyH.cons (i := 12) rfl (fun K hK => ?_) AllReadyH.nil
  go_simp
  refine (spec_l13Bit _ _ _).mono ?_; rintro e' w1 ⟨rfl, rfl⟩
  (try go_wp2_with fail)
  refine hK.out _ _ ?_ (fun hHeld => ?_)
  · rfl
  clear hK K
  try simp only [Act.put, List.setIfInBounds_toArray, List.set_cons_zero, List.set_cons_succ]
  (refine wpAnyH_take (i := 13) (v := ?_) rfl (by kernel_rfl) (by kernel_rfl) (by kernel_rfl) (fun _ _ _ h => h) (Or.inl ⟨by rfl, ?_⟩) (by assumption) ?_); rotate_left; focus (intro w hSw; (obtain rfl := hSw.out; (try go_simp); (try with_reducible rfl))); try simp only [Act.put, List.setIfInBounds_toArray, List.set_cons_zero, List.set_cons_succ]
  refine wpAnyH_ready (rs := [18]) (by kernel_rfl) (by simp) ?_
  refine AllReadyH.cons (i := 18) rfl (fun K hK => ?_) AllReadyH.nil
  go_simp
  refine (spec_l13Bit _ _ _).mono ?_; rintro e' w1 ⟨rfl, rfl⟩
  (try go_wp2_with fail)
  refine hK.out _ _ ?_ (fun hHeld => ?_)
  · rfl
  clear hK K
  try simp only [Act.put, List.setIfInBounds_toArray, List.set_cons_zero, List.set_cons_succ]
  (refine wpAnyH_take (i := 19) (v := ?_) rfl (by kernel_rfl) (by kernel_rfl) (by kernel_rfl) (fun _ _ _ h => h) (Or.inl ⟨by rfl, ?_⟩) (by assumption) ?_); rotate_left; focus (intro w hSw; (obtain rfl := hSw.out; (try go_simp); (try with_reducible rfl))); try simp only [Act.put, List.setIfInBounds_toArray, List.set_cons_zero, List.set_cons_succ]
  refine wpAnyH_ready (rs := [24]) (by kernel_rfl) (by simp) ?_
  refine AllReadyH.cons (i := 24) rfl (fun K hK => ?_) AllReadyH.nil
  go_simp
  refine (spec_l13Bit _ _ _).mono ?_; rintro e' w1 ⟨rfl, rfl⟩
  (try go_wp2_with fail)
  refine hK.out _ _ ?_ (fun hHeld => ?_)
  · rfl
  clear hK K
  try simp only [Act.put, List.setIfInBounds_toArray, List.set_cons_zero, List.set_cons_succ]
  (refine wpAnyH_take (i := 25) (v := ?_) rfl (by kernel_rfl) (by kernel_rfl) (by kernel_rfl) (fun _ _ _ h => h) (Or.inl ⟨by rfl, ?_⟩) (by assumption) ?_); rotate_left; focus (intro w hSw; (obtain rfl := hSw.out; (try go_simp); (try with_reducible rfl))); try simp only [Act.put, List.setIfInBounds_toArray, List.set_cons_zero, List.set_cons_succ]
  refine wpAnyH_ready (rs := [30]) (by kernel_rfl) (by simp) ?_
  refine AllReadyH.cons (i := 30) rfl (fun K hK => ?_) AllReadyH.nil
  go_simp
  refine (spec_l13Bit _ _ _).mono ?_; rintro e' w1 ⟨rfl, rfl⟩
  (try go_wp2_with fail)
  refine hK.out _ _ ?_ (fun hHeld => ?_)
  · rfl
  clear hK K
  try simp only [Act.put, List.setIfInBounds_toArray, List.set_cons_zero, List.set_cons_succ]
  (refine wpAnyH_take (i := 31) (v := ?_) rfl (by kernel_rfl) (by kernel_rfl) (by kernel_rfl) (fun _ _ _ h => h) (Or.inl ⟨by rfl, ?_⟩) (by assumption) ?_); rotate_left; focus (intro w hSw; (obtain rfl := hSw.out; (try go_simp); (try with_reducible rfl))); try simp only [Act.put, List.setIfInBounds_toArray, List.set_cons_zero, List.set_cons_succ]
  (refine wpAnyH_take (i := 32) (v := ?_) rfl (by kernel_rfl) (by kernel_rfl) (by kernel_rfl) (fun _ _ _ h => h) (Or.inl ⟨by rfl, ?_⟩) (by assumption) ?_); rotate_left; focus (intro w hSw; (obtain rfl := hSw.out; (try go_simp); (try with_reducible rfl))); try simp only [Act.put, List.setIfInBounds_toArray, List.set_cons_zero, List.set_cons_succ]
  refine wpAnyH_done (by kernel_rfl) ?_ _
  go_wp2
  go_returns
  exact ⟨rfl, by go_grown⟩
set_option maxRecDepth 100000 in
set_option maxHeartbeats 1000000 in
theorem spec_l13Text_4 (g k : Nat) (o a b e : Bool) (w : World) (hg : g < w.heap.size)
    (c0 : w.cell? ⟨g, k, none⟩ = some (.int .i64 4)) (c1 : w.cell? ⟨g, k + 1, none⟩ = some (.bool o)) (c2 : w.cell? ⟨g, k + 2, none⟩ = some (.bool a)) (c3 : w.cell? ⟨g, k + 3, none⟩ = some (.bool b)) (c4 : w.cell? ⟨g, k + 4, none⟩ = some (.bool e)) :
    Calls Try.prog 32 #[.pointer (some ⟨g, k, none⟩)] w fun e' w' => e' = .returned (.string (stateText 4 o a b e)) ∧ Below w.heap.size w w' := by
  obtain ⟨a1, a2, a3, a4, a5⟩ := stateText_adds' (P := Try.prog) 4 o a b e ⟨#[102, 97, 117, 108, 116]⟩ rfl
  have hfin : stateText 4 o a b e = modeName 4 ++ ⟨#[32]⟩ ++ sgn o ⟨#[111]⟩ ++ sgn a ⟨#[97]⟩ ++ sgn b ⟨#[98]⟩ ++ sgn e ⟨#[101]⟩ := rfl
  rw [hfin]
  generalize modeName 4 ++ ⟨#[32]⟩ = T0 at *
  generalize T0 ++ sgn o ⟨#[111]⟩ = T1 at *
  generalize T1 ++ sgn a ⟨#[97]⟩ = T2 at *
  generalize T2 ++ sgn b ⟨#[98]⟩ = T3 at *
  generalize T3 ++ sgn e ⟨#[101]⟩ = T4 at *
  clear hfin
  go_enter Try.func32, Try.ntmps32
  go_wp2
  refine wp_region_held_drew (S := fun W => Hid (W = w.drew ∨ W = w.drew.alloc (Obj.cells #[.string ⟨#[115, 116, 111, 112]⟩, .string ⟨#[114, 101, 97, 100, 121]⟩, .string ⟨#[114, 117, 110]⟩, .string ⟨#[99, 114, 101, 101, 112]⟩, .string ⟨#[102, 97, 117, 108, 116]⟩] 9))) (by kernel_rfl) (.inl rfl) (fun hHeld => ?_)
  (refine wpAnyH_take (i := 1) (v := ?_) rfl (by kernel_rfl) (by kernel_rfl) (by kernel_rfl) (fun _ _ _ h => h) (Or.inl ⟨by rfl, ?_⟩) (by assumption) ?_); rotate_left; focus (intro w hSw; (rcases hSw.out with rfl | rfl <;> (try go_simp) <;> (try with_reducible rfl))); try simp only [Act.put, List.setIfInBounds_toArray, List.set_cons_zero, List.set_cons_succ]
  (refine wpAnyH_take (i := 2) (v := ?_) rfl (by kernel_rfl) (by kernel_rfl) (by kernel_rfl) (fun _ _ _ h => h) (Or.inl ⟨by rfl, ?_⟩) (by assumption) ?_); rotate_left; focus (intro w hSw; (rcases hSw.out with rfl | rfl <;> (try go_simp) <;> (try with_reducible rfl))); try simp only [Act.put, List.setIfInBounds_toArray, List.set_cons_zero, List.set_cons_succ]
  (refine wpAnyH_take (i := 3) (v := ?_) rfl (by kernel_rfl) (by kernel_rfl) (by kernel_rfl) (fun _ _ _ h => h) (Or.inl ⟨by rfl, ?_⟩) (by assumption) ?_); rotate_left; focus (intro w hSw; (rcases hSw.out with rfl | rfl <;> (try go_simp) <;> (try with_reducible rfl))); try simp only [Act.put, List.setIfInBounds_toArray, List.set_cons_zero, List.set_cons_succ]
  (refine wpAnyH_take (i := 4) (v := ?_) rfl (by kernel_rfl) (by kernel_rfl) (by kernel_rfl) (fun _ _ _ h => h) (Or.inl ⟨by rfl, ?_⟩) (by assumption) ?_); rotate_left; focus (intro w hSw; (rcases hSw.out with rfl | rfl <;> (try go_simp) <;> (try with_reducible rfl))); try simp only [Act.put, List.setIfInBounds_toArray, List.set_cons_zero, List.set_cons_succ]
  (refine wpAnyH_take (i := 8) (v := ?_) rfl (by kernel_rfl) (by kernel_rfl) (by kernel_rfl) (fun _ _ _ h => h) (Or.inl ⟨by rfl, ?_⟩) (by assumption) ?_); rotate_left; focus (intro w hSw; (rcases hSw.out with rfl | rfl <;> (try go_simp) <;> (try with_reducible rfl))); try simp only [Act.put, List.setIfInBounds_toArray, List.set_cons_zero, List.set_cons_succ]
  (refine wpAnyH_take (i := 9) (v := ?_) rfl (by kernel_rfl) (by kernel_rfl) (by kernel_rfl) (fun _ _ _ h => h) (Or.inl ⟨by rfl, ?_⟩) (by assumption) ?_); rotate_left; focus (intro w hSw; (rcases hSw.out with rfl | rfl <;> (try go_simp) <;> (try with_reducible rfl))); try simp only [Act.put, List.setIfInBounds_toArray, List.set_cons_zero, List.set_cons_succ]
  (refine wpAnyH_take (i := 10) (v := ?_) rfl (by kernel_rfl) (by kernel_rfl) (by kernel_rfl) (fun _ _ _ h => h) (Or.inl ⟨by rfl, ?_⟩) (by assumption) ?_); rotate_left; focus (intro w hSw; (rcases hSw.out with rfl | rfl <;> (try go_simp) <;> (try with_reducible rfl))); try simp only [Act.put, List.setIfInBounds_toArray, List.set_cons_zero, List.set_cons_succ]
  (refine wpAnyH_take (i := 11) (v := ?_) rfl (by kernel_rfl) (by kernel_rfl) (by kernel_rfl) (fun _ _ _ h => h) (Or.inl ⟨by rfl, ?_⟩) (by assumption) ?_); rotate_left; focus (intro w hSw; (rcases hSw.out with rfl | rfl <;> (try go_simp) <;> (try with_reducible rfl))); try simp only [Act.put, List.setIfInBounds_toArray, List.set_cons_zero, List.set_cons_succ]
  (refine wpAnyH_take (i := 14) (v := ?_) rfl (by kernel_rfl) (by kernel_rfl) (by kernel_rfl) (fun _ _ _ h => h) (Or.inl ⟨by rfl, ?_⟩) (by assumption) ?_); rotate_left; focus (intro w hSw; (rcases hSw.out with rfl | rfl <;> (try go_simp) <;> (try with_reducible rfl))); try simp only [Act.put, List.setIfInBounds_toArray, List.set_cons_zero, List.set_cons_succ]
  (refine wpAnyH_take (i := 15) (v := ?_) rfl (by kernel_rfl) (by kernel_rfl) (by kernel_rfl) (fun _ _ _ h => h) (Or.inl ⟨by rfl, ?_⟩) (by assumption) ?_); rotate_left; focus (intro w hSw; (rcases hSw.out with rfl | rfl <;> (try go_simp) <;> (try with_reducible rfl))); try simp only [Act.put, List.setIfInBounds_toArray, List.set_cons_zero, List.set_cons_succ]
  (refine wpAnyH_take (i := 16) (v := ?_) rfl (by kernel_rfl) (by kernel_rfl) (by kernel_rfl) (fun _ _ _ h => h) (Or.inl ⟨by rfl, ?_⟩) (by assumption) ?_); rotate_left; focus (intro w hSw; (rcases hSw.out with rfl | rfl <;> (try go_simp) <;> (try with_reducible rfl))); try simp only [Act.put, List.setIfInBounds_toArray, List.set_cons_zero, List.set_cons_succ]
  (refine wpAnyH_take (i := 17) (v := ?_) rfl (by kernel_rfl) (by kernel_rfl) (by kernel_rfl) (fun _ _ _ h => h) (Or.inl ⟨by rfl, ?_⟩) (by assumption) ?_); rotate_left; focus (intro w hSw; (rcases hSw.out with rfl | rfl <;> (try go_simp) <;> (try with_reducible rfl))); try simp only [Act.put, List.setIfInBounds_toArray, List.set_cons_zero, List.set_cons_succ]
  (refine wpAnyH_take (i := 20) (v := ?_) rfl (by kernel_rfl) (by kernel_rfl) (by kernel_rfl) (fun _ _ _ h => h) (Or.inl ⟨by rfl, ?_⟩) (by assumption) ?_); rotate_left; focus (intro w hSw; (rcases hSw.out with rfl | rfl <;> (try go_simp) <;> (try with_reducible rfl))); try simp only [Act.put, List.setIfInBounds_toArray, List.set_cons_zero, List.set_cons_succ]
  (refine wpAnyH_take (i := 21) (v := ?_) rfl (by kernel_rfl) (by kernel_rfl) (by kernel_rfl) (fun _ _ _ h => h) (Or.inl ⟨by rfl, ?_⟩) (by assumption) ?_); rotate_left; focus (intro w hSw; (rcases hSw.out with rfl | rfl <;> (try go_simp) <;> (try with_reducible rfl))); try simp only [Act.put, List.setIfInBounds_toArray, List.set_cons_zero, List.set_cons_succ]
  (refine wpAnyH_take (i := 22) (v := ?_) rfl (by kernel_rfl) (by kernel_rfl) (by kernel_rfl) (fun _ _ _ h => h) (Or.inl ⟨by rfl, ?_⟩) (by assumption) ?_); rotate_left; focus (intro w hSw; (rcases hSw.out with rfl | rfl <;> (try go_simp) <;> (try with_reducible rfl))); try simp only [Act.put, List.setIfInBounds_toArray, List.set_cons_zero, List.set_cons_succ]
  (refine wpAnyH_take (i := 23) (v := ?_) rfl (by kernel_rfl) (by kernel_rfl) (by kernel_rfl) (fun _ _ _ h => h) (Or.inl ⟨by rfl, ?_⟩) (by assumption) ?_); rotate_left; focus (intro w hSw; (rcases hSw.out with rfl | rfl <;> (try go_simp) <;> (try with_reducible rfl))); try simp only [Act.put, List.setIfInBounds_toArray, List.set_cons_zero, List.set_cons_succ]
  (refine wpAnyH_take (i := 26) (v := ?_) rfl (by kernel_rfl) (by kernel_rfl) (by kernel_rfl) (fun _ _ _ h => h) (Or.inl ⟨by rfl, ?_⟩) (by assumption) ?_); rotate_left; focus (intro w hSw; (rcases hSw.out with rfl | rfl <;> (try go_simp) <;> (try with_reducible rfl))); try simp only [Act.put, List.setIfInBounds_toArray, List.set_cons_zero, List.set_cons_succ]
  (refine wpAnyH_take (i := 27) (v := ?_) rfl (by kernel_rfl) (by kernel_rfl) (by kernel_rfl) (fun _ _ _ h => h) (Or.inl ⟨by rfl, ?_⟩) (by assumption) ?_); rotate_left; focus (intro w hSw; (rcases hSw.out with rfl | rfl <;> (try go_simp) <;> (try with_reducible rfl))); try simp only [Act.put, List.setIfInBounds_toArray, List.set_cons_zero, List.set_cons_succ]
  (refine wpAnyH_take (i := 28) (v := ?_) rfl (by kernel_rfl) (by kernel_rfl) (by kernel_rfl) (fun _ _ _ h => h) (Or.inl ⟨by rfl, ?_⟩) (by assumption) ?_); rotate_left; focus (intro w hSw; (rcases hSw.out with rfl | rfl <;> (try go_simp) <;> (try with_reducible rfl))); try simp only [Act.put, List.setIfInBounds_toArray, List.set_cons_zero, List.set_cons_succ]
  (refine wpAnyH_take (i := 29) (v := ?_) rfl (by kernel_rfl) (by kernel_rfl) (by kernel_rfl) (fun _ _ _ h => h) (Or.inl ⟨by rfl, ?_⟩) (by assumption) ?_); rotate_left; focus (intro w hSw; (rcases hSw.out with rfl | rfl <;> (try go_simp) <;> (try with_reducible rfl))); try simp only [Act.put, List.setIfInBounds_toArray, List.set_cons_zero, List.set_cons_succ]
  refine wpAnyH_ready (rs := [0]) (by kernel_rfl) (by simp) ?_
  refine AllReadyH.cons (i := 0) rfl (fun K hK => ?_) AllReadyH.nil
  go_simp
  refine (spec_l13Modes _).mono ?_; rintro e' w1 ⟨rfl, rfl⟩
  (try go_wp2_with fail)
  refine hK.out _ _ ?_ (fun hHeld => ?_)
  · exact (Or.inr rfl : _ ∨ _)
  clear hK K
  try simp only [Act.put, List.setIfInBounds_toArray, List.set_cons_zero, List.set_cons_succ]
  refine wpAnyH_mono (S' := fun W => Hid (W = w.drew.alloc (Obj.cells #[.string ⟨#[115, 116, 111, 112]⟩, .string ⟨#[114, 101, 97, 100, 121]⟩, .string ⟨#[114, 117, 110]⟩, .string ⟨#[99, 114, 101, 101, 112]⟩, .string ⟨#[102, 97, 117, 108, 116]⟩] 9))) (fun _ h => (Or.inr h : _ ∨ _)) _ _ _ _ ?_
  clear hHeld
  have hHeld : Hid (w.drew.alloc (Obj.cells #[.string ⟨#[115, 116, 111, 112]⟩, .string ⟨#[114, 101, 97, 100, 121]⟩, .string ⟨#[114, 117, 110]⟩, .string ⟨#[99, 114, 101, 101, 112]⟩, .string ⟨#[102, 97, 117, 108, 116]⟩] 9) = w.drew.alloc (Obj.cells #[.string ⟨#[115, 116, 111, 112]⟩, .string ⟨#[114, 101, 97, 100, 121]⟩, .string ⟨#[114, 117, 110]⟩, .string ⟨#[99, 114, 101, 101, 112]⟩, .string ⟨#[102, 97, 117, 108, 116]⟩] 9)) := rfl
  (refine wpAnyH_take (i := 5) (v := ?_) rfl (by kernel_rfl) (by kernel_rfl) (by kernel_rfl) (fun _ _ _ h => h) (Or.inl ⟨by rfl, ?_⟩) (by assumption) ?_); rotate_left; focus (intro w hSw; (obtain rfl := hSw.out; (try go_simp); (try with_reducible rfl))); try simp only [Act.put, List.setIfInBounds_toArray, List.set_cons_zero, List.set_cons_succ]
  (refine wpAnyH_take (i := 6) (v := ?_) rfl (by kernel_rfl) (by kernel_rfl) (by kernel_rfl) (fun _ _ _ h => h) (Or.inl ⟨by rfl, ?_⟩) (by assumption) ?_); rotate_left; focus (intro w hSw; (obtain rfl := hSw.out; (try go_simp); (try with_reducible rfl))); try simp only [Act.put, List.setIfInBounds_toArray, List.set_cons_zero, List.set_cons_succ]
  (refine wpAnyH_take (i := 7) (v := ?_) rfl (by kernel_rfl) (by kernel_rfl) (by kernel_rfl) (fun _ _ _ h => h) (Or.inl ⟨by rfl, ?_⟩) (by assumption) ?_); rotate_left; focus (intro w hSw; (obtain rfl := hSw.out; (try go_simp); (try with_reducible rfl))); try simp only [Act.put, List.setIfInBounds_toArray, List.set_cons_zero, List.set_cons_succ]
  refine wpAnyH_ready (rs := [12]) (by kernel_rfl) (by simp) ?_
  refine AllReadyH.cons (i := 12) rfl (fun K hK => ?_) AllReadyH.nil
  go_simp
  refine (spec_l13Bit _ _ _).mono ?_; rintro e' w1 ⟨rfl, rfl⟩
  (try go_wp2_with fail)
  refine hK.out _ _ ?_ (fun hHeld => ?_)
  · rfl
  clear hK K
  try simp only [Act.put, List.setIfInBounds_toArray, List.set_cons_zero, List.set_cons_succ]
  (refine wpAnyH_take (i := 13) (v := ?_) rfl (by kernel_rfl) (by kernel_rfl) (by kernel_rfl) (fun _ _ _ h => h) (Or.inl ⟨by rfl, ?_⟩) (by assumption) ?_); rotate_left; focus (intro w hSw; (obtain rfl := hSw.out; (try go_simp); (try with_reducible rfl))); try simp only [Act.put, List.setIfInBounds_toArray, List.set_cons_zero, List.set_cons_succ]
  refine wpAnyH_ready (rs := [18]) (by kernel_rfl) (by simp) ?_
  refine AllReadyH.cons (i := 18) rfl (fun K hK => ?_) AllReadyH.nil
  go_simp
  refine (spec_l13Bit _ _ _).mono ?_; rintro e' w1 ⟨rfl, rfl⟩
  (try go_wp2_with fail)
  refine hK.out _ _ ?_ (fun hHeld => ?_)
  · rfl
  clear hK K
  try simp only [Act.put, List.setIfInBounds_toArray, List.set_cons_zero, List.set_cons_succ]
  (refine wpAnyH_take (i := 19) (v := ?_) rfl (by kernel_rfl) (by kernel_rfl) (by kernel_rfl) (fun _ _ _ h => h) (Or.inl ⟨by rfl, ?_⟩) (by assumption) ?_); rotate_left; focus (intro w hSw; (obtain rfl := hSw.out; (try go_simp); (try with_reducible rfl))); try simp only [Act.put, List.setIfInBounds_toArray, List.set_cons_zero, List.set_cons_succ]
  refine wpAnyH_ready (rs := [24]) (by kernel_rfl) (by simp) ?_
  refine AllReadyH.cons (i := 24) rfl (fun K hK => ?_) AllReadyH.nil
  go_simp
  refine (spec_l13Bit _ _ _).mono ?_; rintro e' w1 ⟨rfl, rfl⟩
  (try go_wp2_with fail)
  refine hK.out _ _ ?_ (fun hHeld => ?_)
  · rfl
  clear hK K
  try simp only [Act.put, List.setIfInBounds_toArray, List.set_cons_zero, List.set_cons_succ]
  (refine wpAnyH_take (i := 25) (v := ?_) rfl (by kernel_rfl) (by kernel_rfl) (by kernel_rfl) (fun _ _ _ h => h) (Or.inl ⟨by rfl, ?_⟩) (by assumption) ?_); rotate_left; focus (intro w hSw; (obtain rfl := hSw.out; (try go_simp); (try with_reducible rfl))); try simp only [Act.put, List.setIfInBounds_toArray, List.set_cons_zero, List.set_cons_succ]
  refine wpAnyH_ready (rs := [30]) (by kernel_rfl) (by simp) ?_
  refine AllReadyH.cons (i := 30) rfl (fun K hK => ?_) AllReadyH.nil
  go_simp
  refine (spec_l13Bit _ _ _).mono ?_; rintro e' w1 ⟨rfl, rfl⟩
  (try go_wp2_with fail)
  refine hK.out _ _ ?_ (fun hHeld => ?_)
  · rfl
  clear hK K
  try simp only [Act.put, List.setIfInBounds_toArray, List.set_cons_zero, List.set_cons_succ]
  (refine wpAnyH_take (i := 31) (v := ?_) rfl (by kernel_rfl) (by kernel_rfl) (by kernel_rfl) (fun _ _ _ h => h) (Or.inl ⟨by rfl, ?_⟩) (by assumption) ?_); rotate_left; focus (intro w hSw; (obtain rfl := hSw.out; (try go_simp); (try with_reducible rfl))); try simp only [Act.put, List.setIfInBounds_toArray, List.set_cons_zero, List.set_cons_succ]
  (refine wpAnyH_take (i := 32) (v := ?_) rfl (by kernel_rfl) (by kernel_rfl) (by kernel_rfl) (fun _ _ _ h => h) (Or.inl ⟨by rfl, ?_⟩) (by assumption) ?_); rotate_left; focus (intro w hSw; (obtain rfl := hSw.out; (try go_simp); (try with_reducible rfl))); try simp only [Act.put, List.setIfInBounds_toArray, List.set_cons_zero, List.set_cons_succ]
  refine wpAnyH_done (by kernel_rfl) ?_ _
  go_wp2
  go_returns
  exact ⟨rfl, by go_grown⟩
theorem spec_l13Text (g k : Nat) (m : Int) (o a b e : Bool) (w : World) (hm : inB m 0 4 = true) (hg : g < w.heap.size)
    (c0 : w.cell? ⟨g, k, none⟩ = some (.int .i64 m)) (c1 : w.cell? ⟨g, k + 1, none⟩ = some (.bool o)) (c2 : w.cell? ⟨g, k + 2, none⟩ = some (.bool a)) (c3 : w.cell? ⟨g, k + 3, none⟩ = some (.bool b)) (c4 : w.cell? ⟨g, k + 4, none⟩ = some (.bool e)) :
    Calls Try.prog 32 #[.pointer (some ⟨g, k, none⟩)] w fun e' w' => e' = .returned (.string (stateText m o a b e)) ∧ Below w.heap.size w w' := by
  obtain ⟨h1, h2⟩ := inB_true.1 hm
  rcases (show m = 0 ∨ m = 1 ∨ m = 2 ∨ m = 3 ∨ m = 4 by omega) with rfl | rfl | rfl | rfl | rfl
  · exact spec_l13Text_0 g k o a b e w hg c0 c1 c2 c3 c4
  · exact spec_l13Text_1 g k o a b e w hg c0 c1 c2 c3 c4
  · exact spec_l13Text_2 g k o a b e w hg c0 c1 c2 c3 c4
  · exact spec_l13Text_3 g k o a b e w hg c0 c1 c2 c3 c4
  · exact spec_l13Text_4 g k o a b e w hg c0 c1 c2 c3 c4

end Go.Proofs.Ytpmdkadfmieieaa
