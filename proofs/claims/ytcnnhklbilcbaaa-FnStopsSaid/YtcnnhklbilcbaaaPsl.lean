/-
  Plain facts of the law of the stops. No program in sight.
-/
import Derived.Test.YtcnnhklbilcbaaaKP3
namespace Go.Proofs.Ytcnnhklbilcbaaa
open Go.RowKit
set_option linter.unusedVariables false
set_option linter.unusedSimpArgs false

section
variable {L G : Nat → Int} {n : Nat} {lf lu d f x s a r c y : Int} {down : Bool}
theorem worst_bd (h : any (fun k => !secB L G k) n = false) (h1 : 1 ≤ n) : ∀ k, 0 ≤ worstF G (G 0) down k ∧ worstF G (G 0) down k ≤ 900 ∨ n < k := by
  intro k
  induction k with
  | zero => have := secs_at h (k := 0) (by omega); exact Or.inl ⟨this.2.2.1, this.2.2.2⟩
  | succ k ih =>
    rcases Nat.lt_or_ge k n with hk | hk
    · have h2 := secs_at h hk
      rcases ih with ih | ih
      · left
        show 0 ≤ (if down = true then max (worstF G (G 0) down k) (G k) else min (worstF G (G 0) down k) (G k)) ∧ (if down = true then max (worstF G (G 0) down k) (G k) else min (worstF G (G 0) down k) (G k)) ≤ 900
        split <;> omega
      · omega
    · right; omega
theorem worst_one : worstF G (G 0) down 1 = G 0 := by
  show (if down = true then max (G 0) (G 0) else min (G 0) (G 0)) = G 0
  split <;> omega
theorem worst_max {k : Nat} : worstF G (G 0) true (k + 1) = max (worstF G (G 0) true k) (G k) := rfl
theorem worst_min {k : Nat} : worstF G (G 0) false (k + 1) = min (worstF G (G 0) false k) (G k) := rfl
/-- On a track a car stops as on its worst grade. -/
theorem stops_worst (ht : trackOk L G n lf lu = true) (hb : validBrake d f = true) (hx : 0 ≤ x ∧ x ≤ lenT L n) (hs : 0 ≤ s ∧ s ≤ 15000) :
    stopsC L G n lf lu d f x s down = stopCode d f s (worstF G (G 0) down n) down ∧ stopsV L G n lf lu d f x s down = stopWayV d f s (worstF G (G 0) down n) down ∧
    stopsInB L G n lf lu d f x s down = ((stopCode d f s (worstF G (G 0) down n) down == 0) && decide (stopWayV d f s (worstF G (G 0) down n) down ≤ leftV (lenT L n) x down)) ∧
    stopsInB L G n lf lu d f x s down = inTimeB L G n d f x s down := by
  obtain ⟨k1, k2, k3, k4⟩ := track_at ht
  have htb := tb_0 (x := x) (s := s) ht hb (inB_true.2 hx) (inB_true.2 hs)
  have hw : 0 ≤ worstF G (G 0) down n ∧ worstF G (G 0) down n ≤ 900 := by
    rcases worst_bd (down := down) k3 k1 n with h | h
    · exact h
    · omega
  have ha := askV_0 (g := worstF G (G 0) down n) hb (inB_true.2 hs) (inB_true.2 hw)
  unfold stopsInB inTimeB withinV
  unfold stopWayV
  by_cases hf : forceV f (worstF G (G 0) down n) down ≤ 0
  · have e1 : stopCode d f s (worstF G (G 0) down n) down = 3 := by unfold stopCode; rw [if_pos ha, if_pos hf]
    obtain ⟨e2, e3⟩ := stops_3 htb hf
    rw [e1, e2, e3, decide_eq_false (show ¬ 0 < forceV f (worstF G (G 0) down n) down by omega)]
    refine ⟨rfl, rfl, ?_, ?_⟩
    · simp
    · simp
  · have e1 : stopCode d f s (worstF G (G 0) down n) down = 0 := by unfold stopCode; rw [if_pos ha, if_neg hf]
    obtain ⟨e2, e3⟩ := stops_0 htb hf
    rw [e1, e2, e3, decide_eq_true (show 0 < forceV f (worstF G (G 0) down n) down by omega)]
    refine ⟨rfl, by rw [if_pos rfl], ?_, ?_⟩
    · simp
    · simp
theorem time_pos (hp : profOk a r c y = true) {q : Int} (hq : 1 ≤ q) : 1 ≤ timeN a r c y q ∧ (timeN a r c y q : Int) ≤ q := by
  have hat := time_at (n := q) hp (by omega)
  have h1 : 1 ≤ timeN a r c y q := by
    rcases Nat.eq_zero_or_pos (timeN a r c y q) with h | h
    · rw [h, place_0] at hat; omega
    · exact h
  refine ⟨h1, ?_⟩
  have h2 := time_lt (a := a) (r := r) (c := c) (y := y) (n := q) (k := timeN a r c y q - 1) (by omega)
  have h3 := (ride_bd hp (show 0 ≤ q by omega) (timeN a r c y q - 1)).2.2
  omega
/-- Before the first unsafe second of a ride a car stops in time, and then it does not. -/
theorem ride_safe (ht : trackOk L G n lf lu = true) (hb : validBrake d f = true) (hp : profOk a r c y = true) {m : Nat} (h1 : 1 ≤ m)
    (h2 : m ≤ (if firstC L G n lf lu d f a r c y down = 0 then firstN L G n d f a r c y down + 1 else timeN a r c y (lenT L n))) :
    ((placeK a r c y (lenT L n) m == lenT L n) || stopsInB L G n lf lu d f (xV (lenT L n) (placeK a r c y (lenT L n) m) down) (speedK a r c y (lenT L n) m) down) =
      (!(firstC L G n lf lu d f a r c y down == 0) || decide ((m : Int) < firstV L G n lf lu d f a r c y down)) := by
  obtain ⟨k1, k2, k3, k4⟩ := track_at ht
  have hL0 : 0 ≤ lenT L n := (lenT_le (fun k hk => by have := secs_at k3 hk; omega) n (Nat.le_refl _)).1
  have hbd := ride_bd hp hL0 m
  have hx : 0 ≤ xV (lenT L n) (placeK a r c y (lenT L n) m) down ∧ xV (lenT L n) (placeK a r c y (lenT L n) m) down ≤ lenT L n := by unfold xV; split <;> omega
  have hst := (stops_worst (down := down) ht hb hx hbd.2.1).2.2.2
  rw [hst]
  have hbad : ((placeK a r c y (lenT L n) m == lenT L n) || inTimeB L G n d f (xV (lenT L n) (placeK a r c y (lenT L n) m) down) (speedK a r c y (lenT L n) m) down) = !badK L G n d f a r c y down m := by
    unfold badK badB
    by_cases he : placeK a r c y (lenT L n) m = lenT L n
    · rw [he, decide_eq_false (by omega)]; simp
    · rw [beq_eq_false_iff_ne.2 he, decide_eq_true (by omega)]; simp
  rw [hbad]
  have hfo : firstOk L G n lf lu d f a r c y = true := by unfold firstOk; rw [ht, hb, hp]; rfl
  have hle := first_le (L := L) (G := G) (n := n) (d := d) (f := f) (a := a) (r := r) (c := c) (y := y) (down := down)
  have hno : ∀ j, j < firstN L G n d f a r c y down → badK L G n d f a r c y down (j + 1) = false := fun j hj => fst_false (q := fun k => badK L G n d f a r c y down (k + 1)) hj
  by_cases hf : firstN L G n d f a r c y down < timeN a r c y (lenT L n)
  · have hy : badK L G n d f a r c y down (firstN L G n d f a r c y down + 1) = true := fst_true (q := fun k => badK L G n d f a r c y down (k + 1)) hf
    obtain ⟨e1, e2⟩ := first_0 (lf := lf) (lu := lu) (down := down) hfo hf
    rw [e1, if_pos rfl] at h2
    rw [e1, e2]
    by_cases hm : m = firstN L G n d f a r c y down + 1
    · rw [hm, hy, decide_eq_false (by omega)]; rfl
    · have h3 := hno (m - 1) (by omega)
      rw [show m - 1 + 1 = m by omega] at h3
      rw [h3, decide_eq_true (by omega)]; rfl
  · obtain ⟨e1, e2⟩ := first_3 (lf := lf) (lu := lu) (down := down) hfo hf
    rw [e1, if_neg (by decide)] at h2
    have h3 := hno (m - 1) (by omega)
    rw [show m - 1 + 1 = m by omega] at h3
    rw [h3, e1]; rfl
/-- The first unsafe second or else the last second of a ride, and what holds up to it. -/
theorem first_last (ht : trackOk L G n lf lu = true) (hb : validBrake d f = true) (hp : profOk a r c y = true) (h1 : 1 ≤ lenT L n) :
    ∃ LA : Nat, (firstC L G n lf lu d f a r c y down = 0 ∧ firstV L G n lf lu d f a r c y down = (LA : Int) ∨ firstC L G n lf lu d f a r c y down = 3 ∧ LA = timeN a r c y (lenT L n)) ∧
      1 ≤ LA ∧ LA ≤ timeN a r c y (lenT L n) ∧ (timeN a r c y (lenT L n) : Int) ≤ lenT L n ∧
      ∀ m : Nat, 1 ≤ m → m ≤ LA → ((placeK a r c y (lenT L n) m == lenT L n) || stopsInB L G n lf lu d f (xV (lenT L n) (placeK a r c y (lenT L n) m) down) (speedK a r c y (lenT L n) m) down) =
      (!(firstC L G n lf lu d f a r c y down == 0) || decide ((m : Int) < firstV L G n lf lu d f a r c y down)) := by
  have hfo : firstOk L G n lf lu d f a r c y = true := by unfold firstOk; rw [ht, hb, hp]; rfl
  obtain ⟨t1, t2⟩ := time_pos hp h1
  have hsf := fun m => ride_safe (down := down) (m := m) ht hb hp
  by_cases hf : firstN L G n d f a r c y down < timeN a r c y (lenT L n)
  · obtain ⟨e1, e2⟩ := first_0 (lf := lf) (lu := lu) (down := down) hfo hf
    refine ⟨firstN L G n d f a r c y down + 1, Or.inl ⟨e1, by rw [e2]; simp⟩, by omega, by omega, t2, fun m h2 h3 => hsf m h2 (by rw [e1, if_pos rfl]; exact h3)⟩
  · obtain ⟨e1, e2⟩ := first_3 (lf := lf) (lu := lu) (down := down) hfo hf
    refine ⟨timeN a r c y (lenT L n), Or.inr ⟨e1, rfl⟩, t1, Nat.le_refl _, t2, fun m h2 h3 => hsf m h2 (by rw [e1, if_neg (by decide)]; exact h3)⟩
end
end Go.Proofs.Ytcnnhklbilcbaaa
