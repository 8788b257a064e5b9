/-
  A region that draws its order: first operations that read and call (what they call may make memory), then a chain that may write. One walk.
-/
import Derived.Test.YtejhngkbkcalaaaGreatDoorM1
import Derived.StillTail
namespace Go.Proofs.YtejhngkbkcalaaaGreatDoor
open Go.RowKit
set_option linter.unusedVariables false
set_option linter.unusedSimpArgs false

section
variable {P : Program} {ops : Array Oper} {md : Region.Mode} {C : World → Prop}
/-- Whatever order is picked among the first n operations: then L. -/
def headQ (P : Program) (md : Region.Mode) (ops : Array Oper) (C : World → Prop) (n : Nat) (L : Array Bool → Act → Prop) : Nat → Array Bool → Act → Prop
  | 0, done, a => L done a
  | f + 1, done, a => Region.ready md ops done ≠ [] ∧ ∀ i ∈ Region.ready md ops done, i < n ∧ qOp P ops C i (headQ P md ops C n L f (done.setIfInBounds i true)) a
theorem headQ_any {n g : Nat} {L : Array Bool → Act → Prop} {Q' : Exit → Act → World → Prop} (hL : ∀ done a w, C w → L done a → wpAny P md ops Q' g done a w) :
    ∀ (f : Nat) (done : Array Bool) (a : Act) (w : World), C w → headQ P md ops C n L f done a → wpAny P md ops Q' (f + g) done a w := by
  intro f
  induction f with
  | zero => intro done a w hw h; rw [Nat.zero_add]; exact hL done a w hw h
  | succ f ih =>
    intro done a w hw h
    rw [show f + 1 + g = (f + g) + 1 by omega]
    exact ⟨fun h0 => absurd h0 h.1, fun i hi => wpOp_of_qOp hw (fun a' w' hw' h' => ih _ a' w' hw' h') (h.2 i hi).2⟩
theorem headQ_first {n i : Nat} {oi : Oper} {v : Value} {L : Array Bool → Act → Prop} (hi : ops[i]? = some oi) (hsel : ∀ (j : Nat) (o : Oper) cs b, ops[j]? = some o → o.op ≠ .select cs b)
    {I : Array Bool → Prop} (hI : ∀ done k, I done → k ∈ Region.ready md ops done → k < n → I (done.setIfInBounds k true)) (low : ∀ done k, I done → k < n → k ∈ Region.ready md ops done → ∀ j ∈ Region.ready md ops done, j < n)
    (hin : i < n) (hend : ∀ done a, L done a → ∀ j ∈ Region.ready md ops done, n ≤ j) :
    ∀ (f : Nat) (done : Array Bool) (a : Act), I done →
      (∀ j oj, ops[j]? = some oj → j ≠ i → done.getD j true = false → (∀ e ∈ oj.after, Region.binds md e = true → e.on ≠ i) → oi.apart ops oj = true) →
      i ∈ Region.ready md ops done → YieldsIn P ops C oi v a → headQ P md ops C n L f (done.setIfInBounds i true) (a.put oi.dst v) → headQ P md ops C n L (f + 1) done a := by
  intro f
  induction f with
  | zero =>
    intro done a inv _ hr hy H
    refine ⟨fun h => (by rw [h] at hr; cases hr), fun j hj => ⟨low done i inv hin hr j hj, ?_⟩⟩
    by_cases hji : j = i
    · subst hji; exact hy.qOp hi H
    · have h1 := hend _ _ H j (ready_mono hj hji)
      have h2 := low done i inv hin hr j hj
      omega
  | succ f ih =>
    intro done a inv hfree hr hy H
    refine ⟨fun h => (by rw [h] at hr; cases hr), fun j hj => ⟨low done i inv hin hr j hj, ?_⟩⟩
    by_cases hji : j = i
    · subst hji; exact hy.qOp hi H
    · obtain ⟨hjun, oj, hoj, hall⟩ := mem_ready.1 hj
      have hno : ∀ e ∈ oj.after, Region.binds md e = true → e.on ≠ i := fun e he hb heq => by
        have h1 := hall e he hb
        rw [heq, getD_both (mem_ready.1 hr).1] at h1
        cases h1
      have hput := qOp_put hoj (hfree j oj hoj hji hjun hno) (fun cs b => hsel i oi cs b hi) (fun cs b => hsel j oj cs b hoj) hy (H.2 j (ready_mono hj hji)).2
      refine qOp_mono (fun a' h3 => ih (done.setIfInBounds j true) a' (hI done j inv hj (low done i inv hin hr j hj)) ?_ (ready_mono hr (Ne.symm hji)) h3.1 ?_) hput
      · intro k ok hk hki hun hnot
        refine hfree k ok hk hki ?_ hnot
        by_cases hjk : j = k
        · subst hjk; exact hjun
        · rwa [getD_set_ne true hjk] at hun
      · rw [Array.setIfInBounds_comm _ _ hji]
        exact h3.2
theorem headQ_lex {n g : Nat} {Lq : Act → Prop} (hsel : Region.noSelect ops = true) {I : Array Bool → Prop} (hI : ∀ done k, I done → k ∈ Region.ready md ops done → k < n → I (done.setIfInBounds k true)) (low : ∀ done k, I done → k < n → k ∈ Region.ready md ops done → ∀ j ∈ Region.ready md ops done, j < n) :
    ∀ (l : List Oper) (k : Nat) (done : Array Bool) (a : Act), (∀ j, j < l.length → l[j]? = ops[k + j]?) → k + l.length = n → I done →
    Region.lexHead md ops g l.length k done = true → wpQuiet P ops C Lq l a → headQ P md ops C n (fun done' a' => Region.seqB md ops g n done' = true ∧ Lq a') l.length done a := by
  intro l
  induction l with
  | nil =>
    intro k done a _ hk _ hB h
    obtain rfl : k = n := by simpa using hk
    exact ⟨by simpa [Region.lexHead] using hB, h⟩
  | cons o l ih =>
    intro k done a hl hk inv hB h
    have h0 : ops[k]? = some o := by simpa using (hl 0 (by simp)).symm
    simp only [List.length_cons] at hk
    simp only [List.length_cons, Region.lexHead, Bool.and_eq_true] at hB
    have hr : k ∈ Region.ready md ops done := by simpa using hB.1.1
    have hq : qOp P ops C k (wpQuiet P ops C Lq l) a := by unfold qOp; simp only [h0]; exact h
    obtain ⟨v, hy, hK⟩ := yieldsIn_of_qOp h0 hq
    refine headQ_first h0 (Region.noSelect_spec hsel) hI low (by omega) (fun done' a' hL => seqB_ready hL.1) l.length done a inv (Region.free_spec h0 hB.1.2) hr hy ?_
    exact ih (k + 1) _ _ (fun j hj => by have := hl (j + 1) (by simp; omega); simpa [Nat.add_assoc, Nat.add_comm 1 j] using this) (by omega) (hI done k inv hr (by omega)) hB.2 hK
/-- The first n operations read and call, in whatever order; the others come up one by one, from any world of the class. -/
theorem wp_region_cls_tail {w : World} {id : Nat} {Q : Exit → Act → World → Prop} {a : Act} {l : List Oper} (n : Nat) (hm : P.follows .mixedOrders = true) (hB : Region.lexTailB .any l.toArray n = true)
    (h : wpQuiet P l.toArray (fun w' => ∃ u : Cls w, w' = u.w) (fun a' => ∀ w', (∃ u : Cls w, w' = u.w) → wpList P l.toArray Q (l.drop n) a' w') (l.take n) a) : (Code.region id l.toArray true).wp P Q a w := by
  simp only [Region.lexTailB, Bool.and_eq_true, decide_eq_true_eq] at hB
  obtain ⟨⟨⟨⟨hsel, hn⟩, hs⟩, hc⟩, hlex⟩ := hB
  have hn' : n < l.length := by simpa using hn
  have htl : (l.take n).length = n := by simp; omega
  have hdl : (l.drop n).length = l.toArray.size - n := by simp
  have inv0 : HeadInv .any l.toArray n (Array.replicate l.toArray.size false) :=
    ⟨by simp, fun j oj _ hl => (by rw [getD_replicate_false] at hl; cases hl), fun t _ ht => getD_in (by simpa using ht) (getD_replicate_false _ _)⟩
  have H := headQ_lex (md := .any) (g := l.toArray.size - n) (n := n) hsel (I := HeadInv .any l.toArray n) (fun done k inv hk hkn => inv.set hk hkn) (fun done k inv hkn hk j hj => by
    rcases Nat.lt_or_ge j n with h | h
    · exact h
    · exact absurd hj (tail_waits hs hc hn inv _ k rfl hkn (mem_ready.1 hk).1 j h)) (l.take n) 0 _ a (fun j hj => by
    have hj' : j < n := by rwa [htl] at hj
    simp [hj']) (by simpa using htl) inv0 (by rw [htl]; exact hlex) h
  refine wp_region_any hm ?_
  have := headQ_any (Q' := Q) (g := l.toArray.size - n) (fun done a' w' hw' hL => by
    have := wpAny_of_seq (md := .any) (Q' := Q) (l.drop n) n done a' w' (fun j => by simp [List.getElem?_drop]) (by rw [hdl]; exact hL.1) (hL.2 w' hw')
    rwa [hdl] at this) _ _ _ { w with drawn := w.drawn + 1 } ⟨⟨_, (Below.refl _ _).drew⟩, rfl⟩ H
  rw [htl, show n + (l.toArray.size - n) = l.toArray.size by omega] at this
  exact this
/-- The same where the region's first operation is a copy that waits for nothing (and which only the end of the chain may want). -/
def sink1B (md : Region.Mode) (ops : Array Oper) (n : Nat) : Bool :=
  (List.range n).all fun i => (i == 0) || (List.range (n + 1)).any fun j => decide (i < j) && Region.waitsFor md ops j i
theorem tail_waits1 {n : Nat} {done : Array Bool} (hs : sink1B md ops n = true) (hc : Region.chainB md ops n = true) (hn : n < ops.size) (inv : HeadInv md ops n done) (h0 : done.getD 0 true = true) :
    ∀ (d i : Nat), n - i = d → i < n → done.getD i true = false → ∀ t, n ≤ t → t ∉ Region.ready md ops done := by
  intro d
  induction d using Nat.strongRecOn with
  | _ d ih =>
    intro i hd hi hun t ht hr
    obtain ⟨_, ot, hot, hall⟩ := mem_ready.1 hr
    have htlt : t < ops.size := (Array.getElem?_eq_some_iff.1 hot).1
    by_cases htn : t = n
    · subst htn
      have h1 := List.all_eq_true.1 hs i (List.mem_range.2 hi)
      rw [Bool.or_eq_true] at h1
      rcases h1 with h1 | h1
      · have : i = 0 := by simpa using h1
        subst this; rw [h0] at hun; cases hun
      · obtain ⟨j, hj, hj2⟩ := List.any_eq_true.1 h1
        simp only [Bool.and_eq_true, decide_eq_true_eq] at hj2
        obtain ⟨oj, hoj, e, he, hb, hon⟩ := Region.waitsFor_spec hj2.2
        have hjle : j ≤ t := by have := List.mem_range.1 hj; omega
        by_cases hjt : j = t
        · subst hjt
          obtain rfl : oj = ot := Option.some.inj (hoj.symm.trans hot)
          have h2 := hall e he hb
          rw [hon, getD_both hun] at h2
          cases h2
        · cases hl : done.getD j false with
          | true =>
            have h2 := inv.closed j oj hoj hl e he hb
            rw [hon, getD_both hun] at h2
            cases h2
          | false => exact ih (t - j) (by omega) j rfl (by omega) (getD_in (by rw [inv.size]; omega) hl) t (Nat.le_refl _) hr
    · have h1 := List.all_eq_true.1 hc t (List.mem_range.2 htlt)
      simp only [Bool.or_eq_true, decide_eq_true_eq] at h1
      rcases h1 with h1 | h1
      · omega
      · obtain ⟨o', ho', e, he, hb, hon⟩ := Region.waitsFor_spec h1
        obtain rfl : o' = ot := Option.some.inj (ho'.symm.trans hot)
        have h2 := hall e he hb
        rw [hon, getD_both (inv.tail (t - 1) (by omega) (by omega))] at h2
        cases h2
def tail1B (md : Region.Mode) (ops : Array Oper) (n : Nat) : Bool :=
  Region.noSelect ops && decide (0 < n) && decide (n < ops.size) && sink1B md ops n && Region.chainB md ops n && (Region.free md ops (Array.replicate ops.size false) 0 && (Region.ready md ops (Array.replicate ops.size false)).contains 0) &&
    Region.lexHead md ops (ops.size - n) (n - 1) 1 ((Array.replicate ops.size false).setIfInBounds 0 true)
theorem wp_region_cls_tail1 {w : World} {id : Nat} {Q : Exit → Act → World → Prop} {a : Act} {d : Tmp} {x : Operand} {ty : TypeId} {ps : String} {l : List Oper} (n : Nat) (hm : P.follows .mixedOrders = true)
    (hB : tail1B .any (⟨some d, .move x, ty, ps, #[], none⟩ :: l).toArray n = true) (hQ' : ∀ c (a' : Act) w' , Q (.panic c) (a'.put (some d) (a.eval x)) w' → Q (.panic c) a' w')
    (h : wpQuiet P (⟨some d, .move x, ty, ps, #[], none⟩ :: l).toArray (fun w' => ∃ u : Cls w, w' = u.w) (fun a' => ∀ w', (∃ u : Cls w, w' = u.w) → wpList P (⟨some d, .move x, ty, ps, #[], none⟩ :: l).toArray Q (l.drop (n - 1)) a' w') (l.take (n - 1)) (a.put (some d) (a.eval x))) :
    (Code.region id (⟨some d, .move x, ty, ps, #[], none⟩ :: l).toArray true).wp P Q a w := by
  generalize ho : (⟨some d, .move x, ty, ps, #[], none⟩ : Oper) = o at *
  have hop : o.op = .move x := by rw [← ho]
  have hgd : o.guard = none := by rw [← ho]
  have hd : o.dst = some d := by rw [← ho]
  have haf : o.after = #[] := by rw [← ho]
  simp only [tail1B, Bool.and_eq_true, decide_eq_true_eq] at hB
  obtain ⟨⟨⟨⟨⟨⟨hsel, hn0⟩, hn⟩, hs⟩, hc⟩, hf, hr⟩, hlex⟩ := hB
  have hsz : (o :: l).toArray.size = l.length + 1 := by simp
  have hn' : n - 1 < l.length := by omega
  have htl : (l.take (n - 1)).length = n - 1 := by simp; omega
  have hdl : (l.drop (n - 1)).length = (o :: l).toArray.size - n := by simp; omega
  have h0 : (o :: l).toArray[0]? = some o := by simp
  have hrf : ∀ j, (Array.replicate (o :: l).toArray.size false).getD j false = false := fun j => getD_replicate_false _ _
  have inv0 : HeadInv .any (o :: l).toArray n ((Array.replicate (o :: l).toArray.size false).setIfInBounds 0 true) := by
    refine ⟨by simp, fun j oj hj hl e he _ => ?_, fun t ht htt => ?_⟩
    · by_cases hj0 : 0 = j
      · subst hj0
        obtain rfl : o = oj := Option.some.inj (h0.symm.trans hj)
        rw [haf] at he; simp at he
      · rw [getD_set_ne false hj0, hrf] at hl; cases hl
    · rw [getD_set_ne true (by omega)]; exact getD_in (by simpa using htt) (hrf _)
  have H := headQ_lex (md := .any) (g := (o :: l).toArray.size - n) (n := n) hsel (I := fun done => HeadInv .any (o :: l).toArray n done ∧ done.getD 0 true = true)
    (fun done k inv hk hkn => ⟨inv.1.set hk hkn, by
      by_cases hk0 : k = 0
      · subst hk0; simp [inv.1.size]
      · rw [getD_set_ne true hk0]; exact inv.2⟩)
    (fun done k inv hkn hk j hj => by
      rcases Nat.lt_or_ge j n with h | h
      · exact h
      · exact absurd hj (tail_waits1 hs hc hn inv.1 inv.2 _ k rfl hkn (mem_ready.1 hk).1 j h)) (l.take (n - 1)) 1 _ _ (fun j hj => by
    have hj' : j < n - 1 := by rwa [htl] at hj
    simp [hj', Nat.add_comm 1 j]) (by rw [htl]; omega) ⟨inv0, by simp⟩ (by rw [htl]; exact hlex) h
  refine wp_region_any hm ?_
  rw [hsz]
  refine wpAny_take (v := a.eval x) h0 hsel (by rw [← hsz]; exact hf) (by rw [← hsz]; exact hr) (fun c a' w' hh => hQ' c a' w' (by rw [hd] at hh; exact hh)) (.inl ⟨by simp [Region.wanted, hgd], fun w' => ?_⟩) ?_
  · unfold execOp; simp [hop]
  · have := headQ_any (Q' := Q) (g := (o :: l).toArray.size - n) (fun done a' w' hw' hL => by
      have := wpAny_of_seq (md := .any) (Q' := Q) (l.drop (n - 1)) n done a' w' (fun j => by
        rw [List.getElem?_drop, show n + j = (n - 1 + j) + 1 by omega]; simp) (by rw [hdl]; exact hL.1) (hL.2 w' hw')
      rwa [hdl] at this) _ _ _ { w with drawn := w.drawn + 1 } ⟨⟨_, (Below.refl _ _).drew⟩, rfl⟩ H
    rw [htl, show n - 1 + ((o :: l).toArray.size - n) = l.length by omega, hsz] at this
    rw [hd]
    exact this
end
end Go.Proofs.YtejhngkbkcalaaaGreatDoor
