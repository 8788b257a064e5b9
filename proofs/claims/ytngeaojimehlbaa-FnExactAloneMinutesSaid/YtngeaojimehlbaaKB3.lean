/-
  Contracts: the fewest workers.
-/
import Derived.Test.YtngeaojimehlbaaKZ2
namespace Go.Proofs.Ytngeaojimehlbaa
open Go.RowKit
set_option linter.unusedVariables false
set_option linter.unusedSimpArgs false

def spanB (f t : Int) : Bool := inB f 0 1440 && (inB t 0 1440 && decide (f ≤ t))
def fewR (I : Nat → ByteArray) (F U : Nat → Int) (n : Nat) (f t : Int) : List Int × Int :=
  if staffC (validW I F U n) (spanB f t) = 0 then few F U n t (t - f).toNat f [] else ([], staffC (validW I F U n) (spanB f t))
theorem spanB_at {f t : Int} (h : spanB f t = true) : 0 ≤ f ∧ f ≤ 1440 ∧ 0 ≤ t ∧ t ≤ 1440 ∧ f ≤ t := by
  unfold spanB at h
  rw [Bool.and_eq_true, Bool.and_eq_true, inB_true, inB_true, decide_eq_true_eq] at h
  omega
theorem few_len {F U : Nat → Int} {n : Nat} {t : Int} (fu : Nat) : ∀ (m : Int) (acc : List Int), (few F U n t fu m acc).1.length ≤ acc.length + fu := by
  induction fu with
  | zero => intro m acc; simp [few]
  | succ fu ih =>
    intro m acc
    unfold few
    split
    · split
      · simp
      · have := ih (U (bestN U (atL F U m n) (atL F U m n).length).toNat) (acc ++ [bestN U (atL F U m n) (atL F U m n).length])
        simp only [List.length_append, List.length_cons, List.length_nil] at this
        omega
    · simp
theorem fewR_len {I : Nat → ByteArray} {F U : Nat → Int} {n : Nat} {f t : Int} : (fewR I F U n f t).1.length ≤ 1048576 := by
  unfold fewR
  split
  · rename_i h
    have h2 : spanB f t = true := by
      cases hs : spanB f t
      · rw [hs] at h; unfold staffC at h; split at h <;> simp at h
      · rfl
    have := spanB_at h2
    have h3 := few_len (F := F) (U := U) (n := n) (t := t) (t - f).toNat f []
    simp only [List.length_nil] at h3
    omega
  · simp
theorem atL_at {F U : Nat → Int} {m : Int} {n j : Nat} (h : j < (atL F U m n).length) : ∃ q : Nat, (atL F U m n).getD j 0 = (q : Int) ∧ q < n ∧ F q ≤ m ∧ m < U q := by
  have h1 : (atL F U m n).getD j 0 ∈ atL F U m n := by
    rw [List.getD_eq_getElem?_getD, List.getElem?_eq_getElem h]
    exact List.getElem_mem _
  obtain ⟨h2, h3, h4, h5⟩ := atL_mem h1
  refine ⟨((atL F U m n).getD j 0).toNat, by omega, by omega, h4, h5⟩
theorem bestN_at {F U : Nat → Int} {m : Int} {n j : Nat} (h : j + 1 ≤ (atL F U m n).length) : ∃ q : Nat, bestN U (atL F U m n) (j + 1) = (q : Int) ∧ q < n ∧ F q ≤ m ∧ m < U q := by
  obtain ⟨h2, h3, h4, h5⟩ := atL_mem (bestN_mem (U := U) (fun x hx => (atL_mem hx).1) h)
  exact ⟨(bestN U (atL F U m n) (j + 1)).toNat, by omega, by omega, h4, h5⟩
theorem bestN_one {U : Nat → Int} {L : List Int} : bestN U L 1 = L.getD 0 0 := by
  unfold bestN; rw [if_pos (Or.inl (by unfold bestN; decide))]
theorem bestN_lt {U : Nat → Int} {L : List Int} {j p q : Nat} (hp : bestN U L j = (p : Int)) (hq : L.getD j 0 = (q : Int)) (h : U p < U q) : bestN U L (j + 1) = (q : Int) := by
  rw [← hq]; unfold bestN; rw [if_pos]; right; rw [hp, hq]; exact h
theorem bestN_ge {U : Nat → Int} {L : List Int} {j p q : Nat} (hp : bestN U L j = (p : Int)) (hq : L.getD j 0 = (q : Int)) (h : ¬ U p < U q) : bestN U L (j + 1) = (p : Int) := by
  rw [← hp]; conv => lhs; unfold bestN
  rw [if_neg]
  rintro (h1 | h1)
  · rw [hp] at h1; omega
  · rw [hp, hq] at h1; exact h h1

theorem impl_isSpan (f t : Int) (w : World) : Calls Try.prog 36 #[.int .i64 f, .int .i64 t] w fun e w' => e = .returned (.bool (spanB f t)) ∧ w = w' := by
  have kf := fun W => impl_isDayMinute f W
  have kt := fun W => impl_isDayMinute t W
  unfold spanB
  cases h1 : inB f 0 1440
  · rw [h1] at kf
    go_enter Try.func36, Try.ntmps36
    go_wp2_with (go_at_call 62; (with_reducible refine (kf _).mono ?_); rintro e w' ⟨rfl, rfl⟩)
    go_returns
    exact ⟨rfl, rfl⟩
  · rw [h1] at kf
    cases h2 : inB t 0 1440
    · rw [h2] at kt
      go_enter Try.func36, Try.ntmps36
      go_wp2_with (first | (go_at_call 62; (with_reducible refine (kf _).mono ?_); rintro e w' ⟨rfl, rfl⟩) | (go_at_call 62; (with_reducible refine (kt _).mono ?_); rintro e w' ⟨rfl, rfl⟩))
      go_returns
      exact ⟨rfl, rfl⟩
    · rw [h2] at kt
      go_enter Try.func36, Try.ntmps36
      go_wp2_with (first | (go_at_call 62; (with_reducible refine (kf _).mono ?_); rintro e w' ⟨rfl, rfl⟩) | (go_at_call 62; (with_reducible refine (kt _).mono ?_); rintro e w' ⟨rfl, rfl⟩))
      go_returns
      exact ⟨rfl, rfl⟩

set_option maxHeartbeats 1000000 in
theorem spec_l14Span (a : Option Addr) (n c : Nat) (I : Nat → ByteArray) (F U : Nat → Int) (f t : Int) (w : World) (hW : WorkAt w a n I F U) (hn : szW I n ≤ 1048576) : Calls Try.prog 31 #[.slice a n c, .int .i64 f, .int .i64 t] w fun e w' => e = .returned (.int .i64 (staffC (validW I F U n) (spanB f t))) ∧ Below w.heap.size w w' := by
  have ks := fun W h => spec_l14Workers a n c I F U W h hn
  have kf := fun W => spec_l14Minute f W
  have kt := fun W => spec_l14Minute t W
  unfold spanB
  generalize validW I F U n = v at *
  cases v
  · go_enter Try.func31, Try.ntmps31
    go_wp2_with (go_at_call 59; (with_reducible refine (ks _ hW).mono ?_); rintro e w' ⟨rfl, hb⟩; obtain ⟨hc, hf⟩ := bcell hb; have hz : w.heap.size ≤ w'.heap.size := (by have := hb.size; (try simp at this); omega); have hB : Below w.heap.size w w' := Below.trans (by go_grown) (hb.mono (by go_size)))
    go_returns
    exact ⟨rfl, hB⟩
  · cases h1 : inB f 0 1440
    · rw [h1] at kf
      go_enter Try.func31, Try.ntmps31
      go_wp2_with (first | (go_at_call 59; (with_reducible refine (ks _ hW).mono ?_); rintro e w' ⟨rfl, hb⟩; obtain ⟨hc, hf⟩ := bcell hb; have hz : w.heap.size ≤ w'.heap.size := (by have := hb.size; (try simp at this); omega); have hB : Below w.heap.size w w' := Below.trans (by go_grown) (hb.mono (by go_size))) | (go_at_call 60; (with_reducible refine (kf _).mono ?_); rintro e w' ⟨rfl, rfl⟩))
      go_returns
      exact ⟨rfl, hB⟩
    · rw [h1] at kf
      cases h2 : inB t 0 1440
      · rw [h2] at kt
        go_enter Try.func31, Try.ntmps31
        go_wp2_with (first | (go_at_call 59; (with_reducible refine (ks _ hW).mono ?_); rintro e w' ⟨rfl, hb⟩; obtain ⟨hc, hf⟩ := bcell hb; have hz : w.heap.size ≤ w'.heap.size := (by have := hb.size; (try simp at this); omega); have hB : Below w.heap.size w w' := Below.trans (by go_grown) (hb.mono (by go_size))) | (go_at_call 60; (with_reducible refine (kf _).mono ?_); rintro e w' ⟨rfl, rfl⟩) | (go_at_call 60; (with_reducible refine (kt _).mono ?_); rintro e w' ⟨rfl, rfl⟩))
        go_returns
        exact ⟨rfl, hB⟩
      · rw [h2] at kt
        by_cases h3 : f ≤ t
        · have h3' : decide (t < f) = false := decide_eq_false (by omega)
          rw [decide_eq_true h3]
          go_enter Try.func31, Try.ntmps31
          go_wp2_with (first | (go_at_call 59; (with_reducible refine (ks _ hW).mono ?_); rintro e w' ⟨rfl, hb⟩; obtain ⟨hc, hf⟩ := bcell hb; have hz : w.heap.size ≤ w'.heap.size := (by have := hb.size; (try simp at this); omega); have hB : Below w.heap.size w w' := Below.trans (by go_grown) (hb.mono (by go_size))) | (go_at_call 60; (with_reducible refine (kf _).mono ?_); rintro e w' ⟨rfl, rfl⟩) | (go_at_call 60; (with_reducible refine (kt _).mono ?_); rintro e w' ⟨rfl, rfl⟩))
          go_returns
          exact ⟨rfl, hB⟩
        · have h3' : decide (t < f) = true := decide_eq_true (by omega)
          rw [decide_eq_false h3]
          go_enter Try.func31, Try.ntmps31
          go_wp2_with (first | (go_at_call 59; (with_reducible refine (ks _ hW).mono ?_); rintro e w' ⟨rfl, hb⟩; obtain ⟨hc, hf⟩ := bcell hb; have hz : w.heap.size ≤ w'.heap.size := (by have := hb.size; (try simp at this); omega); have hB : Below w.heap.size w w' := Below.trans (by go_grown) (hb.mono (by go_size))) | (go_at_call 60; (with_reducible refine (kf _).mono ?_); rintro e w' ⟨rfl, rfl⟩) | (go_at_call 60; (with_reducible refine (kt _).mono ?_); rintro e w' ⟨rfl, rfl⟩))
          go_returns
          exact ⟨rfl, hB⟩

end Go.Proofs.Ytngeaojimehlbaa
