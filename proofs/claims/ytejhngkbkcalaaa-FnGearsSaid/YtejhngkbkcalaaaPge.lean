/-
  Plain: gears, warm motors, lowered peaks, cheapest hours. No program in sight.
-/
import Derived.Test.YtejhngkbkcalaaaPmo
namespace Go.Proofs.Ytejhngkbkcalaaa
open Go.RowKit
set_option linter.unusedVariables false
set_option linter.unusedSimpArgs false

/-! Gears. -/
theorem gear_bd {Z : Nat → Int} {lo hi : Int} {n : Nat} (h : rises Z lo hi n = true) {j : Nat} (hj : j < n) : lo ≤ Z j ∧ Z j ≤ hi := by
  have := rises_mono (k := j + 1) h hj
  unfold rises at this
  rw [Bool.and_eq_true, Bool.and_eq_true] at this
  exact inB_true.1 this.2.1
def gearC (p m l f s g : Int) : Int := needC p m l (nearV (1000 * f) g) (nearV (s * g) 1000)
def gearsOk (G : Nat → Int) (n : Nat) (f s : Int) : Bool := decide (1 ≤ n) && decide (n ≤ 6) && inB f (-1000000) 1000000 && inB s 0 20000 && rises G 100 10000 n
def gearF (p m l f s : Int) (G : Nat → Int) (n : Nat) : Nat := fst (fun j => gearC p m l f s (G j) == 0) n
def gearE (p m l f s : Int) (G : Nat → Int) (n : Nat) : Int := if motorOk p m l = true then (if gearsOk G n f s = true then (if gearF p m l f s G n < n then 0 else 3) else 2) else 1
def gearK (p m l f s : Int) (G : Nat → Int) (n : Nat) : Int := if gearE p m l f s G n = 0 then (gearF p m l f s G n : Int) else 0
theorem gear_law {p m l f s : Int} {G : Nat → Int} {n : Nat} (h : gearE p m l f s G n = 0 ∨ gearE p m l f s G n = 3) :
    (∃ k : Nat, gearK p m l f s G n = k ∧ k < n) ∧ (∀ j, j < n → (gearE p m l f s G n = 3 ∨ (j : Int) < gearK p m l f s G n) → gearC p m l f s (G j) ≠ 0) ∧ (∀ j, j < n → gearE p m l f s G n = 0 → (j : Int) = gearK p m l f s G n → gearC p m l f s (G j) = 0) ∧
    n ≤ 6 ∧ (-1000000 ≤ f ∧ f ≤ 1000000) ∧ (0 ≤ s ∧ s ≤ 20000) ∧ (∀ j, j < n → 100 ≤ G j ∧ G j ≤ 10000) := by
  have hf0 := @fst_false (fun j => gearC p m l f s (G j) == 0)
  have ht0 := @fst_true (fun j => gearC p m l f s (G j) == 0)
  have hK : gearK p m l f s G n = if gearE p m l f s G n = 0 then (gearF p m l f s G n : Int) else 0 := rfl
  have hE : gearE p m l f s G n = if motorOk p m l = true then (if gearsOk G n f s = true then (if gearF p m l f s G n < n then 0 else 3) else 2) else 1 := rfl
  cases hk : motorOk p m l
  · rw [hk] at hE; simp at hE; omega
  cases hg : gearsOk G n f s
  · rw [hk, hg] at hE; simp at hE; omega
  rw [hk, hg, if_pos rfl, if_pos rfl] at hE
  unfold gearsOk at hg
  simp only [Bool.and_eq_true, decide_eq_true_eq, inB_true] at hg
  obtain ⟨⟨⟨⟨g1, g2⟩, g3⟩, g4⟩, g5⟩ := hg
  refine ⟨?_, ?_, ?_, g2, g3, g4, fun j hj => gear_bd g5 hj⟩
  · by_cases hl : gearF p m l f s G n < n
    · rw [if_pos hl] at hE
      rw [hE, if_pos rfl] at hK
      exact ⟨_, hK, hl⟩
    · rw [if_neg hl] at hE
      rw [hE, if_neg (by decide)] at hK
      exact ⟨0, hK, by omega⟩
  · intro j hj hd h0
    have hlt : j < gearF p m l f s G n := by
      by_cases hl : gearF p m l f s G n < n
      · rw [if_pos hl] at hE
        rw [hE, if_pos rfl] at hK
        rw [hE, hK] at hd
        omega
      · have := fst_le (fun j => gearC p m l f s (G j) == 0) n
        unfold gearF at hl ⊢
        omega
    have := hf0 hlt
    rw [h0] at this
    exact absurd this (by decide)
  · intro j hj he h0
    rw [he, if_pos rfl] at hK
    have hl : gearF p m l f s G n < n := by
      by_cases hl : gearF p m l f s G n < n
      · exact hl
      · rw [if_neg hl] at hE; omega
    have e : j = gearF p m l f s G n := by omega
    have := ht0 hl
    subst e
    exact eq_of_beq this

/-! Warm motors. -/
def heatV (a h c : Int) : Nat → Int
  | 0 => a
  | k + 1 => heatV a h c k + h - nearV ((heatV a h c k + h) * c) 1000
theorem near_share {x c : Int} (h0 : 0 ≤ x) (c0 : 0 ≤ c) (c1 : c ≤ 1000) : 0 ≤ nearV (x * c) 1000 ∧ nearV (x * c) 1000 ≤ x := by
  have a := Int.mul_nonneg h0 c0
  have b := Int.mul_le_mul_of_nonneg_left c1 h0
  unfold nearV
  rw [if_pos a]
  omega
theorem heat_bd {a h c : Int} (a0 : 0 ≤ a) (h0 : 0 ≤ h) (c0 : 0 ≤ c) (c1 : c ≤ 1000) : ∀ k : Nat, 0 ≤ heatV a h c k ∧ heatV a h c k ≤ a + h * k
  | 0 => ⟨a0, by simp [heatV]⟩
  | k + 1 => by
    have ih := heat_bd a0 h0 c0 c1 k
    have := near_share (x := heatV a h c k + h) (by omega) c0 c1
    have e : h * ((k + 1 : Nat) : Int) = h * (k : Int) + h := by rw [show ((k + 1 : Nat) : Int) = (k : Int) + 1 by omega, Int.mul_add, Int.mul_one]
    unfold heatV
    omega
def heatsOk (a h c : Int) : Bool := inB a 0 100000 && inB h 0 1000 && inB c 0 1000
def hotG (a h c t : Int) (N : Nat) : Nat := fst (fun j => decide (t < heatV a h c j)) N
theorem hotG_true {a h c t : Int} {N : Nat} (hl : hotG a h c t N < N) : t < heatV a h c (hotG a h c t N) := by
  have := fst_true (q := fun j => decide (t < heatV a h c j)) hl
  rw [decide_eq_true_eq] at this
  exact this
theorem hotG_false {a h c t : Int} {N j : Nat} (hl : j < hotG a h c t N) : heatV a h c j ≤ t := by
  have := fst_false (q := fun j => decide (t < heatV a h c j)) hl
  rw [decide_eq_false_iff_not] at this
  omega
def hotF (a h c t : Int) : Nat := hotG a h c t 61
def hotE (a h c t : Int) : Int := if (heatsOk a h c && inB t 0 1000000) = true then (if hotF a h c t < 61 then 0 else 3) else 2
def hotN (a h c t : Int) : Int := if hotE a h c t = 0 then (hotF a h c t : Int) else 0
def aftE (a h c n : Int) : Int := if (heatsOk a h c && inB n 0 60) = true then 0 else 2
def aftN (a h c n : Int) : Int := if aftE a h c n = 0 then heatV a h c n.toNat else 0
theorem hot_law {a h c t : Int} (he : hotE a h c t = 0) :
    0 ≤ hotN a h c t ∧ hotN a h c t ≤ 60 ∧ aftE a h c (hotN a h c t) = 0 ∧ t < aftN a h c (hotN a h c t) ∧ (0 < hotN a h c t → aftE a h c (hotN a h c t - 1) = 0 ∧ aftN a h c (hotN a h c t - 1) ≤ t) := by
  have hN : hotN a h c t = (hotF a h c t : Int) := by unfold hotN; rw [if_pos he]
  have he' := he
  unfold hotE at he'
  cases hk : (heatsOk a h c && inB t 0 1000000)
  · rw [hk] at he'; simp at he'
  rw [hk, if_pos rfl] at he'
  have hl : hotF a h c t < 61 := by
    by_cases hl : hotF a h c t < 61
    · exact hl
    · rw [if_neg hl] at he'; omega
  rw [Bool.and_eq_true] at hk
  have ha : ∀ x : Int, 0 ≤ x → x ≤ 60 → aftE a h c x = 0 ∧ aftN a h c x = heatV a h c x.toNat := fun x x0 x1 => by
    have e : aftE a h c x = 0 := by unfold aftE; rw [hk.1, inB_true.2 ⟨x0, x1⟩]; rfl
    exact ⟨e, by unfold aftN; rw [if_pos e]⟩
  rw [hN]
  have h1 := ha (hotF a h c t) (by omega) (by omega)
  refine ⟨by omega, by omega, h1.1, ?_, ?_⟩
  · rw [h1.2, Int.toNat_natCast]
    exact hotG_true hl
  · intro h0
    have h2 := ha ((hotF a h c t : Int) - 1) (by omega) (by omega)
    refine ⟨h2.1, ?_⟩
    rw [h2.2, show ((hotF a h c t : Int) - 1).toNat = hotF a h c t - 1 by omega]
    exact hotG_false (N := 61) (show hotF a h c t - 1 < hotF a h c t by omega)

/-! Lowered peaks. -/
def sumV (f : Nat → Int) : Nat → Int
  | 0 => 0
  | k + 1 => sumV f k + f k
theorem sumV_succ (f : Nat → Int) (k : Nat) : sumV f (k + 1) = sumV f k + f k := rfl
def fAt (F : Nat → Int) (n k : Nat) : Int := if k < n then F k else 0
def carV (F : Nat → Int) (n : Nat) (t : Int) : Nat → Int
  | 0 => 0
  | k + 1 => carV F n t k + fAt F n k - min (carV F n t k + fAt F n k) t
def lowV (F : Nat → Int) (n : Nat) (t : Int) (k : Nat) : Int := min (carV F n t k + fAt F n k) t

def peakQ (F : Nat → Int) (n : Nat) (t : Int) (k : Nat) : Bool := decide (n ≤ k) && decide (carV F n t k ≤ 0)
def peakF (F : Nat → Int) (n : Nat) (t : Int) : Nat := fst (peakQ F n t) 61
def peakOk (F : Nat → Int) (n : Nat) (t : Int) : Bool := forcesOk F n && inB t 1 1000000 && !any (fun j => decide (F j < 0)) n
def peakE (F : Nat → Int) (n : Nat) (t : Int) : Int := if peakOk F n t = true then (if peakF F n t < 61 then 0 else 5) else 2
theorem carV_succ (F : Nat → Int) (n : Nat) (t : Int) (k : Nat) : carV F n t (k + 1) = carV F n t k + fAt F n k - lowV F n t k := rfl
theorem peak_bd {F : Nat → Int} {n : Nat} {t : Int} (h : peakOk F n t = true) : n ≤ 60 ∧ 1 ≤ t ∧ t ≤ 1000000 ∧ ∀ j, j < n → 0 ≤ F j ∧ F j ≤ 1000000 := by
  unfold peakOk forcesOk at h
  rw [Bool.and_eq_true, Bool.and_eq_true, Bool.and_eq_true, decide_eq_true_eq, inB_true] at h
  obtain ⟨⟨⟨h1, h2⟩, h3⟩, h4⟩ := h
  refine ⟨h1, h3.1, h3.2, fun j hj => ?_⟩
  have a := any_false.1 (show any (fun j => !inB (F j) (-1000000) 1000000) n = false by simpa using h2) j hj
  have b := any_false.1 (show any (fun j => decide (F j < 0)) n = false by simpa using h4) j hj
  have a' := inB_true.1 (show inB (F j) (-1000000) 1000000 = true by simpa using a)
  have b' := of_decide_eq_false b
  omega
theorem car_bd {F : Nat → Int} {n : Nat} {t : Int} (h : peakOk F n t = true) : ∀ k : Nat, (0 ≤ carV F n t k ∧ carV F n t k ≤ 1000000 * (k : Int)) ∧ (0 ≤ lowV F n t k ∧ lowV F n t k ≤ t) ∧ (0 ≤ fAt F n k ∧ fAt F n k ≤ 1000000) := by
  obtain ⟨_, t1, t2, hb⟩ := peak_bd h
  have hf : ∀ k, 0 ≤ fAt F n k ∧ fAt F n k ≤ 1000000 := fun k => by
    unfold fAt
    split
    · exact hb k (by assumption)
    · decide
  have hc : ∀ k : Nat, 0 ≤ carV F n t k ∧ carV F n t k ≤ 1000000 * (k : Int) := fun k => by
    induction k with
    | zero => exact ⟨Int.le_refl _, by simp [carV]⟩
    | succ k ih =>
      have := hf k
      rw [carV_succ]
      unfold lowV
      omega
  intro k
  have a := hc k
  have b := hf k
  refine ⟨a, ?_, b⟩
  unfold lowV
  omega
theorem low_sum (F : Nat → Int) (n : Nat) (t : Int) : ∀ k, sumV (lowV F n t) k = sumV (fAt F n) k - carV F n t k
  | 0 => by simp [sumV, carV]
  | k + 1 => by
    have ih := low_sum F n t k
    have e := carV_succ F n t k
    unfold sumV
    omega
theorem fAt_sum (F : Nat → Int) (n : Nat) : ∀ k, sumV (fAt F n) k = sumV F (min k n)
  | 0 => by simp [sumV]
  | k + 1 => by
    have ih := fAt_sum F n k
    rw [sumV_succ, ih]
    unfold fAt
    by_cases h : k < n
    · rw [if_pos h, show min (k + 1) n = k + 1 by omega, show min k n = k by omega, sumV_succ]
    · rw [if_neg h, show min (k + 1) n = min k n by omega, Int.add_zero]
theorem peak_law {F : Nat → Int} {n : Nat} {t : Int} (he : peakE F n t = 0) :
    peakF F n t ≤ 60 ∧ n ≤ peakF F n t ∧ sumV (lowV F n t) (peakF F n t) = sumV F n ∧ (∀ k, (0 ≤ lowV F n t k ∧ lowV F n t k ≤ t)) ∧ (∀ k, sumV (lowV F n t) k ≤ sumV (fAt F n) k) ∧ (∀ k, k ≤ 60 → (0 ≤ sumV (lowV F n t) k ∧ sumV (fAt F n) k ≤ 1000000 * (k : Int))) ∧ t ≤ 1000000 := by
  unfold peakE at he
  cases hk : peakOk F n t
  · rw [hk] at he; simp at he
  rw [hk, if_pos rfl] at he
  have hl : peakF F n t < 61 := by
    by_cases hl : peakF F n t < 61
    · exact hl
    · rw [if_neg hl] at he; omega
  have hq := fst_true (q := peakQ F n t) hl
  change peakQ F n t (peakF F n t) = true at hq
  unfold peakQ at hq
  rw [Bool.and_eq_true, decide_eq_true_eq, decide_eq_true_eq] at hq
  have hb := car_bd hk
  have hs := low_sum F n t
  obtain ⟨_, t1, t2, _⟩ := peak_bd hk
  refine ⟨by omega, hq.1, ?_, fun k => (hb k).2.1, fun k => ?_, fun k hk => ⟨?_, ?_⟩, t2⟩
  · have := (hb (peakF F n t)).1.1
    rw [hs, fAt_sum, show min (peakF F n t) n = n by omega]
    omega
  · have := (hb k).1.1
    rw [hs]; omega
  · clear hk
    induction k with
    | zero => exact Int.le_refl _
    | succ k ih => have := (hb k).2.1.1; unfold sumV; omega
  · clear hk
    induction k with
    | zero => simp [sumV]
    | succ k ih => have := (hb k).2.2; unfold sumV; omega

/-! Cheapest hours. -/
def upd (f : Nat → Int) (k : Nat) (v : Int) (j : Nat) : Int := if j = k then v else f j
theorem sumV_cong {f g : Nat → Int} : ∀ {n : Nat}, (∀ j, j < n → f j = g j) → sumV f n = sumV g n
  | 0, _ => rfl
  | n + 1, h => by unfold sumV; rw [sumV_cong (fun j hj => h j (by omega)), h n (by omega)]
theorem sum_upd {f : Nat → Int} {k : Nat} {v : Int} : ∀ {n : Nat}, k < n → sumV (upd f k v) n = sumV f n - f k + v
  | 0, h => by omega
  | n + 1, h => by
    unfold sumV
    by_cases hk : k < n
    · rw [sum_upd hk]
      have : upd f k v n = f n := by unfold upd; rw [if_neg (by omega)]
      omega
    · obtain rfl : k = n := by omega
      rw [sumV_cong (f := upd f k v) (g := f) (fun j hj => by unfold upd; rw [if_neg (by omega)])]
      have : upd f k v k = v := by unfold upd; rw [if_pos rfl]
      omega
theorem sum_upd_mul {f p : Nat → Int} {k : Nat} {v : Int} {n : Nat} (h : k < n) : sumV (fun j => upd f k v j * p j) n = sumV (fun j => f j * p j) n - f k * p k + v * p k := by
  have e : (fun j => upd f k v j * p j) = upd (fun j => f j * p j) k (v * p k) := by
    funext j
    unfold upd
    by_cases hj : j = k
    · rw [if_pos hj, if_pos hj, hj]
    · rw [if_neg hj, if_neg hj]
  rw [e, sum_upd h]
/-- An order of n indices by their prices. -/
structure OrderOf (O : Nat → Nat) (n : Nat) : Prop where
  lt : ∀ i, i < n → O i < n
  inj : ∀ i j, i < n → j < n → O i = O j → i = j
  sur : ∀ k, k < n → ∃ i, i < n ∧ O i = k
theorem OrderOf.id (n : Nat) : OrderOf (fun i => i) n := ⟨fun i h => h, fun i j _ _ h => h, fun k h => ⟨k, h, rfl⟩⟩
def swp (O : Nat → Nat) (a b i : Nat) : Nat := if i = a then O b else if i = b then O a else O i
theorem OrderOf.swap {O : Nat → Nat} {n a b : Nat} (h : OrderOf O n) (ha : a < n) (hb : b < n) : OrderOf (swp O a b) n := by
  refine ⟨fun i hi => ?_, fun i j hi hj he => ?_, fun k hk => ?_⟩
  · unfold swp
    split
    · exact h.lt b hb
    · split
      · exact h.lt a ha
      · exact h.lt i hi
  · unfold swp at he
    by_cases i1 : i = a
    · rw [if_pos i1] at he
      by_cases j1 : j = a
      · omega
      · rw [if_neg j1] at he
        by_cases j2 : j = b
        · rw [if_pos j2] at he
          have := h.inj _ _ hb ha he; omega
        · rw [if_neg j2] at he
          have := h.inj _ _ hb hj he; omega
    · rw [if_neg i1] at he
      by_cases i2 : i = b
      · rw [if_pos i2] at he
        by_cases j1 : j = a
        · rw [if_pos j1] at he
          have := h.inj _ _ ha hb he; omega
        · rw [if_neg j1] at he
          by_cases j2 : j = b
          · omega
          · rw [if_neg j2] at he
            have := h.inj _ _ ha hj he; omega
      · rw [if_neg i2] at he
        by_cases j1 : j = a
        · rw [if_pos j1] at he
          have := h.inj _ _ hi hb he; omega
        · rw [if_neg j1] at he
          by_cases j2 : j = b
          · rw [if_pos j2] at he
            have := h.inj _ _ hi ha he; omega
          · rw [if_neg j2] at he
            exact h.inj _ _ hi hj he
  · obtain ⟨i, hi, e⟩ := h.sur k hk
    by_cases i1 : i = a
    · refine ⟨b, hb, ?_⟩
      unfold swp
      by_cases h2 : b = a
      · rw [if_pos h2, h2, ← i1, e]
      · rw [if_neg h2, if_pos rfl, ← i1, e]
    · by_cases i2 : i = b
      · exact ⟨a, ha, by unfold swp; rw [if_pos rfl, ← i2, e]⟩
      · exact ⟨i, hi, by unfold swp; rw [if_neg i1, if_neg i2, e]⟩
def sortedBy (P : Nat → Int) (O : Nat → Nat) (n : Nat) : Prop := ∀ i j, i ≤ j → j < n → P (O i) ≤ P (O j)
/-- What is left after k hours. -/
def remV (r e : Int) : Nat → Int
  | 0 => r
  | k + 1 => remV r e k - min (remV r e k) e
def givV (r e : Int) (k : Nat) : Int := min (remV r e k) e
/-- The hours after k steps. -/
def hrsV (r e : Int) (O : Nat → Nat) : Nat → Nat → Int
  | 0 => fun _ => 0
  | k + 1 => upd (hrsV r e O k) (O k) (givV r e k)
def costV (r e : Int) (O : Nat → Nat) (P : Nat → Int) : Nat → Int
  | 0 => 0
  | k + 1 => costV r e O P k + givV r e k * P (O k)
theorem remV_succ (r e : Int) (k : Nat) : remV r e (k + 1) = remV r e k - givV r e k := rfl
theorem rem_bd {r e : Int} (r0 : 0 ≤ r) (e1 : 1 ≤ e) : ∀ k : Nat, 0 ≤ remV r e k ∧ remV r e k ≤ r ∧ (r - e * (k : Int) ≤ remV r e k) ∧ (remV r e k = 0 ∨ remV r e k = r - e * (k : Int))
  | 0 => by refine ⟨r0, Int.le_refl _, ?_, Or.inr ?_⟩ <;> simp [remV]
  | k + 1 => by
    have ih := rem_bd r0 e1 k
    have he : e * ((k + 1 : Nat) : Int) = e * (k : Int) + e := by rw [show ((k + 1 : Nat) : Int) = (k : Int) + 1 by omega, Int.mul_add, Int.mul_one]
    rw [remV_succ, he]
    unfold givV
    omega
theorem hrs_at {r e : Int} {O : Nat → Nat} {n : Nat} (h : OrderOf O n) : ∀ k, k ≤ n → (∀ i, i < k → hrsV r e O k (O i) = givV r e i) ∧ (∀ i, k ≤ i → i < n → hrsV r e O k (O i) = 0)
  | 0, _ => ⟨fun i hi => by omega, fun i _ _ => rfl⟩
  | k + 1, hk => by
    obtain ⟨a, b⟩ := hrs_at (r := r) (e := e) h k (by omega)
    refine ⟨fun i hi => ?_, fun i hi hn => ?_⟩
    · show upd _ _ _ _ = _
      unfold upd
      by_cases hik : i = k
      · rw [if_pos (by rw [hik]), hik]
      · rw [if_neg (fun he => hik (h.inj _ _ (by omega) (by omega) he))]
        exact a i (by omega)
    · show upd _ _ _ _ = _
      unfold upd
      rw [if_neg (fun he => by have := h.inj _ _ hn (by omega) he; omega)]
      exact b i (by omega) hn
theorem hrs_sum {r e : Int} {O : Nat → Nat} {P : Nat → Int} {n : Nat} (h : OrderOf O n) : ∀ k, k ≤ n → sumV (hrsV r e O k) n = r - remV r e k ∧ sumV (fun j => hrsV r e O k j * P j) n = costV r e O P k
  | 0, _ => by
    have z : ∀ m, sumV (fun _ => (0 : Int)) m = 0 := fun m => by induction m with
      | zero => rfl
      | succ m ih => unfold sumV; rw [ih]; rfl
    refine ⟨?_, ?_⟩
    · show sumV (fun _ => 0) n = r - r
      rw [z]; omega
    · show sumV (fun j => 0 * P j) n = 0
      rw [sumV_cong (g := fun _ => (0 : Int)) (fun j _ => Int.zero_mul _), z]
  | k + 1, hk => by
    obtain ⟨a, b⟩ := hrs_sum (r := r) (e := e) (P := P) h k (by omega)
    have hz := (hrs_at (r := r) (e := e) h k (by omega)).2 k (Nat.le_refl _) (by omega)
    have hl := h.lt k (by omega)
    have hm := remV_succ r e k
    refine ⟨?_, ?_⟩
    · show sumV (upd _ _ _) n = _
      rw [sum_upd hl, hz]; omega
    · show sumV (fun j => upd (hrsV r e O k) (O k) (givV r e k) j * P j) n = costV r e O P k + givV r e k * P (O k)
      rw [sum_upd_mul hl, hz, b, Int.zero_mul]; omega
theorem hours_law {r e : Int} {O : Nat → Nat} {P : Nat → Int} {n : Nat} (h : OrderOf O n) (hs : sortedBy P O n) (r0 : 0 ≤ r) (e1 : 1 ≤ e) (hr : r ≤ e * (n : Int)) :
    sumV (hrsV r e O n) n = r ∧ sumV (fun j => hrsV r e O n j * P j) n = costV r e O P n ∧ (∀ i, i < n → 0 ≤ hrsV r e O n i ∧ hrsV r e O n i ≤ e) ∧
    (∀ i j, i < n → j < n → 0 < hrsV r e O n i → P j < P i → ¬ hrsV r e O n j < e) := by
  have hb := rem_bd (r := r) (e := e) r0 e1
  obtain ⟨a, b⟩ := hrs_sum (r := r) (e := e) (P := P) h n (Nat.le_refl _)
  obtain ⟨c, _⟩ := hrs_at (r := r) (e := e) h n (Nat.le_refl _)
  have hg : ∀ k, 0 ≤ givV r e k ∧ givV r e k ≤ e := fun k => by have := hb k; unfold givV; omega
  refine ⟨?_, b, fun i hi => ?_, fun i j hi hj h0 hp => ?_⟩
  · have := hb n
    rw [a]; omega
  · obtain ⟨x, hx, rfl⟩ := h.sur i hi
    rw [c x hx]; exact hg x
  · obtain ⟨x, hx, rfl⟩ := h.sur i hi
    obtain ⟨y, hy, rfl⟩ := h.sur j hj
    rw [c x hx] at h0
    rw [c y hy]
    have hyx : y < x := by
      rcases Nat.lt_or_ge y x with h1 | h1
      · exact h1
      · have := hs x y h1 hy; omega
    have bx := hb x
    have by' := hb y
    have m : e * (y : Int) + e ≤ e * (x : Int) := by
      have := Int.mul_le_mul_of_nonneg_left (show (y : Int) + 1 ≤ x by omega) (show 0 ≤ e by omega)
      rw [Int.mul_add, Int.mul_one] at this
      exact this
    unfold givV at *
    omega
end Go.Proofs.Ytejhngkbkcalaaa
