/-
  Contracts: the fewest workers.
-/
import Derived.Test.YtdnnmpmpemcpbaaKZ2
namespace Go.Proofs.Ytdnnmpmpemcpbaa
open Go.RowKit
set_option linter.unusedVariables false
set_option linter.unusedSimpArgs false

def spanB (f t : Int) : Bool := inB f 0 1440 && (inB t 0 1440 && decide (f ≤ t))
def fewR (I : Nat → ByteArray) (F U : Nat → Int) (n : Nat) (f t : Int) : List Int × Int :=
  if staffC (validW I F U n) (spanB f t) = 0 then few F U n t (t - f).toNat f [] else ([], staffC (validW I F U n) (spanB f t))
theorem spanB_at {f t : Int} (h : spanB f t = true) : 0 ≤ f ∧ f ≤ 1440 ∧ 0 ≤ t ∧ t ≤ 1440 ∧ f ≤ t := by
  unfold spanB at h
  rw [Bool.and_eq_true, Bool.and_eq_true, inB_true, inB_true, decide_eq_true_eq] at h
  omega
theorem few_len {F U : Nat → Int} {n : Nat} {t : Int} (fu : Nat) : ∀ (m : Int) (acc : List Int), (few F U n t fu m acc).1.length ≤ acc.length + fu := by
  induction fu with
  | zero => intro m acc; simp [few]
  | succ fu ih =>
    intro m acc
    unfold few
    split
    · split
      · simp
      · have := ih (U (bestN U (atL F U m n) (atL F U m n).length).toNat) (acc ++ [bestN U (atL F U m n) (atL F U m n).length])
        simp only [List.length_append, List.length_cons, List.length_nil] at this
        omega
    · simp
theorem fewR_len {I : Nat → ByteArray} {F U : Nat → Int} {n : Nat} {f t : Int} : (fewR I F U n f t).1.length ≤ 1048576 := by
  unfold fewR
  split
  · rename_i h
    have h2 : spanB f t = true := by
      cases hs : spanB f t
      · rw [hs] at h; unfold staffC at h; split at h <;> simp at h
      · rfl
    have := spanB_at h2
    have h3 := few_len (F := F) (U := U) (n := n) (t := t) (t - f).toNat f []
    simp only [List.length_nil] at h3
    omega
  · simp
theorem atL_at {F U : Nat → Int} {m : Int} {n j : Nat} (h : j < (atL F U m n).length) : ∃ q : Nat, (atL F U m n).getD j 0 = (q : Int) ∧ q < n ∧ F q ≤ m ∧ m < U q := by
  have h1 : (atL F U m n).getD j 0 ∈ atL F U m n := by
    rw [List.getD_eq_getElem?_getD, List.getElem?_eq_getElem h]
    exact List.getElem_mem _
  obtain ⟨h2, h3, h4, h5⟩ := atL_mem h1
  refine ⟨((atL F U m n).getD j 0).toNat, by omega, by omega, h4, h5⟩
theorem bestN_at {F U : Nat → Int} {m : Int} {n j : Nat} (h : j + 1 ≤ (atL F U m n).length) : ∃ q : Nat, bestN U (atL F U m n) (j + 1) = (q : Int) ∧ q < n ∧ F q ≤ m ∧ m < U q := by
  obtain ⟨h2, h3, h4, h5⟩ := atL_mem (bestN_mem (U := U) (fun x hx => (atL_mem hx).1) h)
  exact ⟨(bestN U (atL F U m n) (j + 1)).toNat, by omega, by omega, h4, h5⟩
theorem bestN_one {U : Nat → Int} {L : List Int} : bestN U L 1 = L.getD 0 0 := by
  unfold bestN; rw [if_pos (Or.inl (by unfold bestN; decide))]
theorem bestN_lt {U : Nat → Int} {L : List Int} {j p q : Nat} (hp : bestN U L j = (p : Int)) (hq : L.getD j 0 = (q : Int)) (h : U p < U q) : bestN U L (j + 1) = (q : Int) := by
  rw [← hq]; unfold bestN; rw [if_pos]; right; rw [hp, hq]; exact h
theorem bestN_ge {U : Nat → Int} {L : List Int} {j p q : Nat} (hp : bestN U L j = (p : Int)) (hq : L.getD j 0 = (q : Int)) (h : ¬ U p < U q) : bestN U L (j + 1) = (p : Int) := by
  rw [← hp]; conv => lhs; unfold bestN
  rw [if_neg]
  rintro (h1 | h1)
  · rw [hp] at h1; omega
  · rw [hp, hq] at h1; exact h h1

theorem impl_isSpan (f t : Int) (w : World) : Calls Try.prog 49 #[.int .i64 f, .int .i64 t] w fun e w' => e = .returned (.bool (spanB f t)) ∧ w = w' := by
  have kf := fun W => impl_isDayMinute f W
  have kt := fun W => impl_isDayMinute t W
  unfold spanB
  cases h1 : inB f 0 1440
  · rw [h1] at kf
    go_enter Try.func49, Try.ntmps49
    go_wp2_with (go_at_call 45; (with_reducible refine (kf _).mono ?_); rintro e w' ⟨rfl, rfl⟩)
    go_returns
    exact ⟨rfl, rfl⟩
  · rw [h1] at kf
    cases h2 : inB t 0 1440
    · rw [h2] at kt
      go_enter Try.func49, Try.ntmps49
      go_wp2_with (first | (go_at_call 45; (with_reducible refine (kf _).mono ?_); rintro e w' ⟨rfl, rfl⟩) | (go_at_call 45; (with_reducible refine (kt _).mono ?_); rintro e w' ⟨rfl, rfl⟩))
      go_returns
      exact ⟨rfl, rfl⟩
    · rw [h2] at kt
      go_enter Try.func49, Try.ntmps49
      go_wp2_with (first | (go_at_call 45; (with_reducible refine (kf _).mono ?_); rintro e w' ⟨rfl, rfl⟩) | (go_at_call 45; (with_reducible refine (kt _).mono ?_); rintro e w' ⟨rfl, rfl⟩))
      go_returns
      exact ⟨rfl, rfl⟩

set_option maxHeartbeats 1000000 in
theorem spec_l14Span (a : Option Addr) (n c : Nat) (I : Nat → ByteArray) (F U : Nat → Int) (f t : Int) (w : World) (hW : WorkAt w a n I F U) (hn : szW I n ≤ 1048576) : Calls Try.prog 48 #[.slice a n c, .int .i64 f, .int .i64 t] w fun e w' => e = .returned (.int .i64 (staffC (validW I F U n) (spanB f t))) ∧ Below w.heap.size w w' := by
  have ks := fun W h => spec_l14Workers a n c I F U W h hn
  have kf := fun W => spec_l14Minute f W
  have kt := fun W => spec_l14Minute t W
  unfold spanB
  generalize validW I F U n = v at *
  cases v
  · go_enter Try.func48, Try.ntmps48
    go_wp2_with (go_at_call 38; (with_reducible refine (ks _ hW).mono ?_); rintro e w' ⟨rfl, hb⟩; obtain ⟨hc, hf⟩ := bcell hb; have hz : w.heap.size ≤ w'.heap.size := (by have := hb.size; (try simp at this); omega); have hB : Below w.heap.size w w' := Below.trans (by go_grown) (hb.mono (by go_size)))
    go_returns
    exact ⟨rfl, hB⟩
  · cases h1 : inB f 0 1440
    · rw [h1] at kf
      go_enter Try.func48, Try.ntmps48
      go_wp2_with (first | (go_at_call 38; (with_reducible refine (ks _ hW).mono ?_); rintro e w' ⟨rfl, hb⟩; obtain ⟨hc, hf⟩ := bcell hb; have hz : w.heap.size ≤ w'.heap.size := (by have := hb.size; (try simp at this); omega); have hB : Below w.heap.size w w' := Below.trans (by go_grown) (hb.mono (by go_size))) | (go_at_call 42; (with_reducible refine (kf _).mono ?_); rintro e w' ⟨rfl, rfl⟩))
      go_returns
      exact ⟨rfl, hB⟩
    · rw [h1] at kf
      cases h2 : inB t 0 1440
      · rw [h2] at kt
        go_enter Try.func48, Try.ntmps48
        go_wp2_with (first | (go_at_call 38; (with_reducible refine (ks _ hW).mono ?_); rintro e w' ⟨rfl, hb⟩; obtain ⟨hc, hf⟩ := bcell hb; have hz : w.heap.size ≤ w'.heap.size := (by have := hb.size; (try simp at this); omega); have hB : Below w.heap.size w w' := Below.trans (by go_grown) (hb.mono (by go_size))) | (go_at_call 42; (with_reducible refine (kf _).mono ?_); rintro e w' ⟨rfl, rfl⟩) | (go_at_call 42; (with_reducible refine (kt _).mono ?_); rintro e w' ⟨rfl, rfl⟩))
        go_returns
        exact ⟨rfl, hB⟩
      · rw [h2] at kt
        by_cases h3 : f ≤ t
        · have h3' : decide (t < f) = false := decide_eq_false (by omega)
          rw [decide_eq_true h3]
          go_enter Try.func48, Try.ntmps48
          go_wp2_with (first | (go_at_call 38; (with_reducible refine (ks _ hW).mono ?_); rintro e w' ⟨rfl, hb⟩; obtain ⟨hc, hf⟩ := bcell hb; have hz : w.heap.size ≤ w'.heap.size := (by have := hb.size; (try simp at this); omega); have hB : Below w.heap.size w w' := Below.trans (by go_grown) (hb.mono (by go_size))) | (go_at_call 42; (with_reducible refine (kf _).mono ?_); rintro e w' ⟨rfl, rfl⟩) | (go_at_call 42; (with_reducible refine (kt _).mono ?_); rintro e w' ⟨rfl, rfl⟩))
          go_returns
          exact ⟨rfl, hB⟩
        · have h3' : decide (t < f) = true := decide_eq_true (by omega)
          rw [decide_eq_false h3]
          go_enter Try.func48, Try.ntmps48
          go_wp2_with (first | (go_at_call 38; (with_reducible refine (ks _ hW).mono ?_); rintro e w' ⟨rfl, hb⟩; obtain ⟨hc, hf⟩ := bcell hb; have hz : w.heap.size ≤ w'.heap.size := (by have := hb.size; (try simp at this); omega); have hB : Below w.heap.size w w' := Below.trans (by go_grown) (hb.mono (by go_size))) | (go_at_call 42; (with_reducible refine (kf _).mono ?_); rintro e w' ⟨rfl, rfl⟩) | (go_at_call 42; (with_reducible refine (kt _).mono ?_); rintro e w' ⟨rfl, rfl⟩))
          go_returns
          exact ⟨rfl, hB⟩

set_option maxHeartbeats 4000000 in
theorem impl_FewestWorkers (a : Option Addr) (n c : Nat) (I : Nat → ByteArray) (F U : Nat → Int) (f t : Int) (w : World) (hW : WorkAt w a n I F U) (hn : szW I n ≤ 1048576) :
    Calls Try.prog 28 #[.slice a n c, .int .i64 f, .int .i64 t] w (RetInts (fewR I F U n f t).1 (fewR I F U n f t).2 w) := by
  have hn2 := szW_n hn
  have kp := fun W => impl_isSpan f t W
  have ks := fun W h => impl_staffed a n c I F U (spanB f t) W h hn
  by_cases hC : staffC (validW I F U n) (spanB f t) = 0
  · have hR : fewR I F U n f t = few F U n t (t - f).toNat f [] := if_pos hC
    rw [hR]
    have hv : validW I F U n = true := by
      cases hv : validW I F U n
      · rw [hv] at hC; simp [staffC] at hC
      · rfl
    have hs : spanB f t = true := by
      cases hs : spanB f t
      · rw [hv, hs] at hC; simp [staffC] at hC
      · rfl
    obtain ⟨f0, f1, t0, t1, ft⟩ := spanB_at hs
    have hgw : goodW I F U n = true := by unfold validW at hv; rw [Bool.and_eq_true] at hv; exact hv.1
    have HGD := Lib.hid (fun k (h : k < n) => goodW_at hgw h)
    rw [hC] at ks
    clear hC hR hv hs hgw
    generalize hRR : few F U n t (t - f).toNat f [] = R at *
    have HR := Lib.hid hRR
    clear hRR
    go_enter Try.func28, Try.ntmps28
    go_wp2_with (go_at_call 49; (with_reducible refine (kp _).mono ?_); rintro e w' ⟨rfl, rfl⟩)
    refine (ks _ hW).mono ?_
    rintro e w0 ⟨rfl, hb0⟩
    have hW0 := hW.below hb0
    have h00 := hb0.size
    clear ks
    go_wp2
    go_loopw [9, 10] (fun u y wr => ∃ (m : Int) (acc : List Int) (fu : Nat), y = .int .i64 m ∧ AppOf w0.heap.size wr u acc ∧ Below w0.heap.size w0 wr ∧ f ≤ m ∧ m ≤ 1440 ∧ (acc.length : Int) ≤ m - f ∧ t - m ≤ fu ∧ few F U n t fu m acc = R) (fun _ y _ => (1440 - intOf y).toNat)
    case atStart => exact ⟨f, [], (t - f).toNat, rfl, AppOf.nil _ _, Below.refl _ _, by omega, by omega, by simp, by omega, HR.out⟩
    case round =>
      clear HR
      obtain ⟨m, acc, fu, rfl, hA, hB, hm0, hm1, hac, hfu, hf⟩ := hrel
      have HF := Lib.hid hf
      clear hf
      by_cases hlt : m < t
      · obtain ⟨fu, rfl⟩ : ∃ k, fu = k + 1 := ⟨fu - 1, by omega⟩
        have kl := fun W h => impl_workersAt a n c I F U m W h hn2
        have hWr := hW0.below hB
        have hW0' := hW0
        have HN := Lib.hid (few_none (F := F) (U := U) (n := n) (f := fu) (acc := acc) hlt)
        have HX := Lib.hid (few_next (F := F) (U := U) (n := n) (f := fu) (acc := acc) hlt)
        have HL := Lib.hid (fun j (h : j < (atL F U m n).length) => atL_at h)
        have HBN := Lib.hid (fun j (h : j + 1 ≤ (atL F U m n).length) => bestN_at h)
        have hLn := atL_len F U m n
        generalize atL F U m n = L at *
        go_wp2_with (go_at_call 46; (with_reducible refine (kl _ hWr).mono ?_); rintro e' w1 ⟨a1, c1, rfl, ho, hB1⟩)
        have hA1 := hA.below hB1
        have hBo := hB.trans (hB1.mono hB.size)
        have hW1 := hWr.below hB1
        have hIL := ho.cells.ints
        clear hB hA
        go_loopw [11, 30] (fun x i wx => ∃ j : Nat, j ≤ L.length ∧ i = .int .i64 j ∧ x = .int .i64 (bestN U L j) ∧ Below w1.heap.size w1 wx) (fun _ i _ => L.length - (intOf i).toNat)
        case atStart => exact ⟨0, by omega, rfl, rfl, Below.refl _ _⟩
        case round =>
          obtain ⟨j, hj, rfl, rfl, hB⟩ := hrel
          by_cases hjl : j < L.length
          · obtain ⟨q, hq1, hq2, _, _⟩ := HL.out j hjl
            obtain ⟨b2, o2, rfl, hb2, hc2⟩ := hIL (by omega)
            have g2 := (hB.cell (p := ⟨b2, o2 + j, none⟩) hb2).trans (hc2 j hjl)
            (try dsimp only at g2)
            rw [hq1] at g2
            have hb2' : b2 < wr.heap.size := Nat.lt_of_lt_of_le hb2 hB.size
            obtain ⟨b, o, rfl, hb, hc⟩ := hW1 (by omega)
            have cq := (hB.cell (p := ⟨b, o + q * 3 + 2, none⟩) hb).trans (hc q hq2).2.2
            have hb' : b < wr.heap.size := Nat.lt_of_lt_of_le hb hB.size
            have i0 : (0 : Int) ≤ (j : Int) := by omega
            have i1 : (j : Int) < (L.length : Int) := by omega
            have i2 : (0 : Int) ≤ (q : Int) := by omega
            have i3 : (q : Int) < (n : Int) := by omega
            rcases Nat.eq_zero_or_pos j with hj0 | hj0
            · subst hj0
              rw [Nat.add_zero] at g2
              have E := Lib.hid ((bestN_one (U := U) (L := L)).trans hq1)
              rw [show bestN U L 0 = -1 from rfl]
              clear hc hc2 hq1
              go_wp2
              (refine wp_region_cls (by kernel_rfl) (by kernel_rfl) ?_; (repeat (go_big_quiet_step (fail))); refine wpQuiet_nil ?_; rintro _ ⟨u, rfl⟩; have hb := u.below; replace hB := hB.trans (hb.mono hB.size); generalize u.w = w' at *; obtain ⟨hc, hf, hs⟩ := bkeep hb; have hq' := hb.size; have hq := hB.size; have hb' := hb; clear hb)
              go_wp2
              go_roundw
              case rel => exact ⟨1, by omega, by go_num, by rw [E.out], hB⟩
              case measure => simp [intOf]; omega
            · obtain ⟨j', rfl⟩ : ∃ j', j = j' + 1 := ⟨j - 1, by omega⟩
              obtain ⟨p, hp1, hp2, _, _⟩ := HBN.out j' (by omega)
              have cp := (hB.cell (p := ⟨b, o + p * 3 + 2, none⟩) hb).trans (hc p hp2).2.2
              have i4 : (0 : Int) ≤ (p : Int) := by omega
              have i5 : (p : Int) < (n : Int) := by omega
              have i6 : ¬ (p : Int) < 0 := by omega
              have i7 : decide ((p : Int) < 0) = false := decide_eq_false i6
              clear hc hc2
              by_cases hU : U p < U q
              · have E := Lib.hid (bestN_lt hp1 hq1 hU)
                have hU' : decide (U p < U q) = true := decide_eq_true hU
                rw [hp1]
                clear hp1 hq1
                go_wp2
                (refine wp_region_cls (by kernel_rfl) (by kernel_rfl) ?_; (repeat (go_big_quiet_step (fail))); refine wpQuiet_nil ?_; rintro _ ⟨u, rfl⟩; have hb := u.below; replace hB := hB.trans (hb.mono hB.size); generalize u.w = w' at *; obtain ⟨hc, hf, hs⟩ := bkeep hb; have hq' := hb.size; have hq := hB.size; have hb' := hb; clear hb)
                go_wp2
                go_roundw
                case rel => exact ⟨j' + 1 + 1, by omega, by go_num, by rw [E.out], hB⟩
                case measure => simp [intOf]; omega
              · have E := Lib.hid (bestN_ge hp1 hq1 hU)
                have hU' : decide (U p < U q) = false := decide_eq_false hU
                rw [hp1]
                clear hp1 hq1
                go_wp2
                (refine wp_region_cls (by kernel_rfl) (by kernel_rfl) ?_; (repeat (go_big_quiet_step (fail))); refine wpQuiet_nil ?_; rintro _ ⟨u, rfl⟩; have hb := u.below; replace hB := hB.trans (hb.mono hB.size); generalize u.w = w' at *; obtain ⟨hc, hf, hs⟩ := bkeep hb; have hq' := hb.size; have hq := hB.size; have hb' := hb; clear hb)
                go_wp2
                go_roundw
                case rel => exact ⟨j' + 1 + 1, by omega, by go_num, by rw [E.out], hB⟩
                case measure => simp [intOf]; omega
          · obtain rfl : j = L.length := by omega
            by_cases h0 : L.length = 0
            · have E := Lib.hid (HF.out.symm.trans (HN.out h0))
              rw [h0, show bestN U L 0 = -1 from rfl]
              have hBX := hBo.trans (hB.mono hBo.size)
              go_wp2
              go_returns
              rw [E.out]
              exact ret_none (hb0.trans (hBX.mono hb0.size))
            · obtain ⟨j', hj'⟩ : ∃ j', L.length = j' + 1 := ⟨L.length - 1, by omega⟩
              obtain ⟨p, hp1, hp2, hp3, hp4⟩ := HBN.out j' (by omega)
              rw [← hj'] at hp1
              have hlen : acc.length ≤ 16777216 := by omega
              obtain ⟨b, o, rfl, hb, hc⟩ := hW0' (by omega)
              have hA2 := hA1.below hB
              have hB2 := hBo.trans (hB.mono hBo.size)
              have hq := hB2.size
              have cp := (hB2.cell (p := ⟨b, o + p * 3 + 2, none⟩) hb).trans (hc p hp2).2.2
              have hb' : b < wr.heap.size := Nat.lt_of_lt_of_le hb hq
              have i4 : (0 : Int) ≤ (p : Int) := by omega
              have i5 : (p : Int) < (n : Int) := by omega
              have i6 : ¬ (p : Int) < 0 := by omega
              have i7 : decide ((p : Int) < 0) = false := decide_eq_false i6
              have E := Lib.hid (HF.out.symm.trans (HX.out (by omega)))
              have HP := Lib.hid hp1
              have HG := Lib.hid (HGD.out p hp2)
              rw [hp1]
              clear hc hp1
              go_wp2_with (at_builtin; refine app_int _ rfl _ _ rfl w0.heap.size _ _ rfl (hA2.alloc _) _ 1 (p : Int) rfl (by go_cell) hlen (by simp; omega) ?_; intro v' w3 hA' hw1; have hB3 := (Below.alloc hB2 hq _).trans hw1; replace cp := (hw1.cell (p := ⟨b, o + p * 3 + 2, none⟩) hb).trans (cell_old cp hb'))
              go_roundw
              case rel =>
                have hg := HG.out
                exact ⟨U p, acc ++ [(p : Int)], fu, rfl, hA', hB3, by omega, by omega, by simp; omega, by omega, by rw [E.out, HP.out]; simp⟩
              case measure => have hg := HG.out; simp [intOf]; omega
      · have E := Lib.hid (HF.out.symm.trans (few_stop (F := F) (U := U) (n := n) (f := fu) (acc := acc) hlt))
        go_wp2
        go_returns
        rw [E.out]
        exact hA.ret0 hb0 hB
  · have hR : fewR I F U n f t = ([], staffC (validW I F U n) (spanB f t)) := if_neg hC
    rw [hR]
    generalize staffC (validW I F U n) (spanB f t) = C at *
    have hC' : (C != 0) = true := by simpa using hC
    clear hR hC
    go_enter Try.func28, Try.ntmps28
    go_wp2_with (first | (go_at_call 49; (with_reducible refine (kp _).mono ?_); rintro e w' ⟨rfl, rfl⟩) | (go_at_call 44; (with_reducible refine (ks _ hW).mono ?_); rintro e w' ⟨rfl, hb⟩; obtain ⟨hc, hf⟩ := bcell hb; have hz : w.heap.size ≤ w'.heap.size := (by have := hb.size; (try simp at this); omega); have hB : Below w.heap.size w w' := Below.trans (by go_grown) (hb.mono (by go_size))))
    go_returns
    exact ret_none hB

set_option maxHeartbeats 4000000 in
theorem spec_FewestWorkers (a : Option Addr) (n c : Nat) (I : Nat → ByteArray) (F U : Nat → Int) (f t : Int) (w : World) (hW : WorkAt w a n I F U) (hn : szW I n ≤ 1048576) :
    Calls Try.prog 27 #[.slice a n c, .int .i64 f, .int .i64 t] w (RetInts (fewR I F U n f t).1 (fewR I F U n f t).2 w) := by
  have hn2 := szW_n hn
  have ks := fun W h => spec_l14Span a n c I F U f t W h hn
  by_cases hC : staffC (validW I F U n) (spanB f t) = 0
  · have hR : fewR I F U n f t = few F U n t (t - f).toNat f [] := if_pos hC
    rw [hR]
    have hv : validW I F U n = true := by
      cases hv : validW I F U n
      · rw [hv] at hC; simp [staffC] at hC
      · rfl
    have hs : spanB f t = true := by
      cases hs : spanB f t
      · rw [hv, hs] at hC; simp [staffC] at hC
      · rfl
    obtain ⟨f0, f1, t0, t1, ft⟩ := spanB_at hs
    have hgw : goodW I F U n = true := by unfold validW at hv; rw [Bool.and_eq_true] at hv; exact hv.1
    have HGD := Lib.hid (fun k (h : k < n) => goodW_at hgw h)
    rw [hC] at ks
    clear hC hR hv hs hgw
    generalize hRR : few F U n t (t - f).toNat f [] = R at *
    have HR := Lib.hid hRR
    clear hRR
    go_enter Try.func27, Try.ntmps27
    go_wp2_with fail
    refine (ks _ hW).mono ?_
    rintro e w0 ⟨rfl, hb0⟩
    have hW0 := hW.below hb0
    have h00 := hb0.size
    clear ks
    go_wp2
    go_loopw [1, 9] (fun y u wr => ∃ (m : Int) (acc : List Int) (fu : Nat), y = .int .i64 m ∧ AppOf w0.heap.size wr u acc ∧ Below w0.heap.size w0 wr ∧ f ≤ m ∧ m ≤ 1440 ∧ (acc.length : Int) ≤ m - f ∧ t - m ≤ fu ∧ few F U n t fu m acc = R) (fun y _ _ => (1440 - intOf y).toNat)
    case atStart => exact ⟨f, [], (t - f).toNat, rfl, AppOf.made (Nat.le_refl _), Below.alloc (Below.refl _ _) (Nat.le_refl _) _, by omega, by omega, by simp, by omega, HR.out⟩
    case round =>
      clear HR
      obtain ⟨m, acc, fu, rfl, hA, hB, hm0, hm1, hac, hfu, hf⟩ := hrel
      have HF := Lib.hid hf
      clear hf
      by_cases hlt : m < t
      · obtain ⟨fu, rfl⟩ : ∃ k, fu = k + 1 := ⟨fu - 1, by omega⟩
        have kl := fun W h => spec_l14At a n c I F U m W h hn2
        have hWr := hW0.below hB
        have hW0' := hW0
        have HN := Lib.hid (few_none (F := F) (U := U) (n := n) (f := fu) (acc := acc) hlt)
        have HX := Lib.hid (few_next (F := F) (U := U) (n := n) (f := fu) (acc := acc) hlt)
        have HL := Lib.hid (fun j (h : j < (atL F U m n).length) => atL_at h)
        have HBN := Lib.hid (fun j (h : j + 1 ≤ (atL F U m n).length) => bestN_at h)
        have hLn := atL_len F U m n
        generalize atL F U m n = L at *
        by_cases h0 : L.length = 0
        · have E := Lib.hid (HF.out.symm.trans (HN.out h0))
          have h0' : ((L.length : Int) == 0) = true := beq_iff_eq.2 (by omega)
          go_wp2_with (go_at_call 43; (with_reducible refine (kl _ hWr).mono ?_); rintro e' w1 ⟨a1, c1, rfl, ho, hB1⟩)
          go_returns
          rw [E.out]
          exact ret_none (hb0.trans ((hB.trans (hB1.mono hB.size)).mono hb0.size))
        · have h0' : ((L.length : Int) == 0) = false := beq_eq_false_iff_ne.2 (by omega)
          obtain ⟨q0, hq01, hq02, _, _⟩ := HL.out 0 (by omega)
          have hq03 := Lib.hid ((bestN_one (U := U) (L := L)).trans hq01)
          have i8 : (0 : Int) < (L.length : Int) := by omega
          go_wp2_with (go_at_call 43; (with_reducible refine (kl _ hWr).mono ?_); rintro e' w1 ⟨a1, c1, rfl, ho, hB1⟩; have hIL := ho.cells.ints; obtain ⟨b2, o2, rfl, hb2, hc20⟩ := id hIL (by omega); have HC2 := Lib.hid hc20; have g2 := hc20 0 (by omega); (try dsimp only at g2); rw [hq01, Nat.add_zero] at g2)
          have hA1 := hA.below hB1
          have hBo := hB.trans (hB1.mono hB.size)
          have hW1 := hWr.below hB1
          clear hB hA
          clear hc20 hq01 hIL
          go_loopw [11, 12] (fun x i wx => ∃ j : Nat, j ≤ L.length ∧ 1 ≤ j ∧ i = .int .i64 j ∧ x = .int .i64 (bestN U L j) ∧ Below w1.heap.size w1 wx) (fun _ i _ => L.length - (intOf i).toNat)
          case atStart => exact ⟨1, by omega, Nat.le_refl _, rfl, by rw [hq03.out], Below.refl _ _⟩
          case round =>
            obtain ⟨j, hj, hj1, rfl, rfl, hB⟩ := hrel
            by_cases hjl : j < L.length
            · obtain ⟨q, hq1, hq2, _, _⟩ := HL.out j hjl
              have hc2 := HC2.out
              have g2 := (hB.cell (p := ⟨b2, o2 + j, none⟩) hb2).trans (hc2 j hjl)
              (try dsimp only at g2)
              rw [hq1] at g2
              have hb2' : b2 < wr.heap.size := Nat.lt_of_lt_of_le hb2 hB.size
              obtain ⟨b, o, rfl, hb, hc⟩ := hW1 (by omega)
              have cq := (hB.cell (p := ⟨b, o + q * 3 + 2, none⟩) hb).trans (hc q hq2).2.2
              have hb' : b < wr.heap.size := Nat.lt_of_lt_of_le hb hB.size
              have i0 : (0 : Int) ≤ (j : Int) := by omega
              have i1 : (j : Int) < (L.length : Int) := by omega
              have i2 : (0 : Int) ≤ (q : Int) := by omega
              have i3 : (q : Int) < (n : Int) := by omega
              obtain ⟨j', rfl⟩ : ∃ j', j = j' + 1 := ⟨j - 1, by omega⟩
              obtain ⟨p, hp1, hp2, _, _⟩ := HBN.out j' (by omega)
              have cp := (hB.cell (p := ⟨b, o + p * 3 + 2, none⟩) hb).trans (hc p hp2).2.2
              have i4 : (0 : Int) ≤ (p : Int) := by omega
              have i5 : (p : Int) < (n : Int) := by omega
              have i6 : ¬ (p : Int) < 0 := by omega
              have i7 : decide ((p : Int) < 0) = false := decide_eq_false i6
              clear hc hc2
              by_cases hU : U p < U q
              · have E := Lib.hid (bestN_lt hp1 hq1 hU)
                have hU' : decide (U p < U q) = true := decide_eq_true hU
                rw [hp1]
                clear hp1 hq1
                go_wp2
                (refine wp_region_cls (by kernel_rfl) (by kernel_rfl) ?_; (repeat (go_big_quiet_step (fail))); refine wpQuiet_nil ?_; rintro _ ⟨u, rfl⟩; have hb := u.below; replace hB := hB.trans (hb.mono hB.size); generalize u.w = w' at *; obtain ⟨hc, hf, hs⟩ := bkeep hb; have hq' := hb.size; have hq := hB.size; have hb' := hb; clear hb)
                go_wp2
                go_roundw
                case rel => exact ⟨j' + 1 + 1, by omega, by omega, by go_num, by rw [E.out], hB⟩
                case measure => simp [intOf]; omega
              · have E := Lib.hid (bestN_ge hp1 hq1 hU)
                have hU' : decide (U p < U q) = false := decide_eq_false hU
                rw [hp1]
                clear hp1 hq1
                go_wp2
                (refine wp_region_cls (by kernel_rfl) (by kernel_rfl) ?_; (repeat (go_big_quiet_step (fail))); refine wpQuiet_nil ?_; rintro _ ⟨u, rfl⟩; have hb := u.below; replace hB := hB.trans (hb.mono hB.size); generalize u.w = w' at *; obtain ⟨hc, hf, hs⟩ := bkeep hb; have hq' := hb.size; have hq := hB.size; have hb' := hb; clear hb)
                go_wp2
                go_roundw
                case rel => exact ⟨j' + 1 + 1, by omega, by omega, by go_num, by rw [E.out], hB⟩
                case measure => simp [intOf]; omega
            · obtain rfl : j = L.length := by omega
              obtain ⟨j', hj'⟩ : ∃ j', L.length = j' + 1 := ⟨L.length - 1, by omega⟩
              obtain ⟨p, hp1, hp2, hp3, hp4⟩ := HBN.out j' (by omega)
              rw [← hj'] at hp1
              have hlen : acc.length ≤ 16777216 := by omega
              obtain ⟨b, o, rfl, hb, hc⟩ := hW0' (by omega)
              have hA2 := hA1.below hB
              have hB2 := hBo.trans (hB.mono hBo.size)
              have hq := hB2.size
              have cp := (hB2.cell (p := ⟨b, o + p * 3 + 2, none⟩) hb).trans (hc p hp2).2.2
              have hb' : b < wr.heap.size := Nat.lt_of_lt_of_le hb hq
              have i4 : (0 : Int) ≤ (p : Int) := by omega
              have i5 : (p : Int) < (n : Int) := by omega
              have i6 : ¬ (p : Int) < 0 := by omega
              have i7 : decide ((p : Int) < 0) = false := decide_eq_false i6
              have E := Lib.hid (HF.out.symm.trans (HX.out (by omega)))
              have HP := Lib.hid hp1
              have HG := Lib.hid (HGD.out p hp2)
              rw [hp1]
              clear hc hp1
              go_wp2_with (at_builtin; refine app_int _ rfl _ _ rfl w0.heap.size _ _ rfl (hA2.alloc _) _ 1 (p : Int) rfl (by go_cell) hlen (by simp; omega) ?_; intro v' w3 hA' hw1; have hB3 := (Below.alloc hB2 hq _).trans hw1; replace cp := (hw1.cell (p := ⟨b, o + p * 3 + 2, none⟩) hb).trans (cell_old cp hb'))
              go_roundw
              case rel =>
                have hg := HG.out
                exact ⟨U p, acc ++ [(p : Int)], fu, rfl, hA', hB3, by omega, by omega, by simp; omega, by omega, by rw [E.out, HP.out]; simp⟩
              case measure => have hg := HG.out; simp [intOf]; omega
      · have E := Lib.hid (HF.out.symm.trans (few_stop (F := F) (U := U) (n := n) (f := fu) (acc := acc) hlt))
        go_wp2
        go_returns
        rw [E.out]
        exact hA.ret0 hb0 hB
  · have hR : fewR I F U n f t = ([], staffC (validW I F U n) (spanB f t)) := if_neg hC
    rw [hR]
    generalize staffC (validW I F U n) (spanB f t) = C at *
    have hC' : (C != 0) = true := by simpa using hC
    clear hR hC
    go_enter Try.func27, Try.ntmps27
    go_wp2_with (go_at_call 48; (with_reducible refine (ks _ hW).mono ?_); rintro e w' ⟨rfl, hb⟩; obtain ⟨hc, hf⟩ := bcell hb; have hz : w.heap.size ≤ w'.heap.size := (by have := hb.size; (try simp at this); omega); have hB : Below w.heap.size w w' := Below.trans (by go_grown) (hb.mono (by go_size)))
    go_returns
    exact ret_none hB

end Go.Proofs.Ytdnnmpmpemcpbaa
