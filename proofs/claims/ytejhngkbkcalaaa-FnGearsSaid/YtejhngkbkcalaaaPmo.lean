/-
  Plain: what motors need, the greatest speeds, energies, the hardest pull. No program in sight.
-/
import Derived.Test.YtejhngkbkcalaaaM1
import Derived.Test.YtejhngkbkcalaaaPmp
namespace Go.Proofs.Ytejhngkbkcalaaa
open Go.RowKit
set_option linter.unusedVariables false
set_option linter.unusedSimpArgs false

def workV (f s : Int) : Int := (f * s).tdiv 1000
def powV (l f s : Int) : Int := if 0 < workV f s then upV (1000 * workV f s) (1000 - l) else -((-workV f s * (1000 - l)).tdiv 1000)
def canV (p m l f s : Int) : Bool := decide (f ≤ m) && decide (powV l f s ≤ p)
def needC (p m l f s : Int) : Int := if motorOk p m l = true then (if (inB f (-1000000) 1000000 && inB s 0 20000) = true then (if canV p m l f s = true then 0 else 6) else 2) else 1
def needN (p m l f s : Int) : Int := if needC p m l f s = 0 then powV l f s else 0

theorem fs_bd {f s : Int} (h1 : -1000000 ≤ f) (h2 : f ≤ 1000000) (h3 : 0 ≤ s) (h4 : s ≤ 20000) : -20000000000 ≤ f * s ∧ f * s ≤ 20000000000 := by
  by_cases h0 : 0 ≤ f
  · have := mul_bd h0 h2 h3 h4; omega
  · have := mul_bd (x := -f) (a := 1000000) (by omega) (by omega) h3 h4
    rw [Int.neg_mul] at this; omega
theorem work_bd {f s : Int} (h1 : -1000000 ≤ f) (h2 : f ≤ 1000000) (h3 : 0 ≤ s) (h4 : s ≤ 20000) : -20000000 ≤ workV f s ∧ workV f s ≤ 20000000 := by
  have := fs_bd h1 h2 h3 h4
  unfold workV
  generalize f * s = x at *
  by_cases h0 : 0 ≤ x
  · rw [Int.tdiv_eq_ediv_of_nonneg h0]; omega
  · rw [show x = -(-x) by omega, Int.neg_tdiv, Int.tdiv_eq_ediv_of_nonneg (by omega)]; omega
theorem pow_bd {l f s : Int} (h1 : -1000000 ≤ f) (h2 : f ≤ 1000000) (h3 : 0 ≤ s) (h4 : s ≤ 20000) (l0 : 0 ≤ l) (l1 : l ≤ 500) : -20000000 ≤ powV l f s ∧ powV l f s ≤ 20000000000 := by
  have hw := work_bd h1 h2 h3 h4
  unfold powV
  generalize workV f s = x at *
  split
  · have := upV_bound (a := 1000 * x) (b := 1000 - l) (by omega) (by omega); omega
  · have hb := mul_bd (x := -x) (a := 20000000) (y := 1000 - l) (b := 1000) (by omega) (by omega) (by omega) (by omega)
    rw [Int.tdiv_eq_ediv_of_nonneg hb.1]
    omega
theorem work_mono {f s s' : Int} (hf : 0 ≤ f) (h0 : 0 ≤ s) (h : s ≤ s') : workV f s ≤ workV f s' := by
  have a := Int.mul_nonneg hf h0
  have b := Int.mul_le_mul_of_nonneg_left h hf
  unfold workV
  rw [Int.tdiv_eq_ediv_of_nonneg a, Int.tdiv_eq_ediv_of_nonneg (by omega)]
  exact Int.ediv_le_ediv (by decide) b
theorem work_anti {f s s' : Int} (hf : f ≤ 0) (h0 : 0 ≤ s) (h : s ≤ s') : workV f s' ≤ workV f s := by
  have a := Int.mul_nonneg (show 0 ≤ -f by omega) h0
  have b := Int.mul_le_mul_of_nonneg_left h (show 0 ≤ -f by omega)
  unfold workV
  rw [show f * s = -(-f * s) by rw [Int.neg_mul]; omega, show f * s' = -(-f * s') by rw [Int.neg_mul]; omega, Int.neg_tdiv, Int.neg_tdiv, Int.tdiv_eq_ediv_of_nonneg a, Int.tdiv_eq_ediv_of_nonneg (by omega)]
  have := Int.ediv_le_ediv (c := 1000) (by decide) b
  omega
theorem pow_of {l : Int} {x y : Int} (l0 : 0 ≤ l) (l1 : l ≤ 500) (h : x ≤ y) :
    (if 0 < x then upV (1000 * x) (1000 - l) else -((-x * (1000 - l)).tdiv 1000)) ≤ (if 0 < y then upV (1000 * y) (1000 - l) else -((-y * (1000 - l)).tdiv 1000)) := by
  by_cases hx : 0 < x
  · rw [if_pos hx, if_pos (by omega)]
    exact upV_mono (by omega) (by omega)
  · rw [if_neg hx]
    have a := Int.mul_nonneg (show 0 ≤ -x by omega) (show 0 ≤ 1000 - l by omega)
    rw [Int.tdiv_eq_ediv_of_nonneg a]
    have a2 := Int.ediv_nonneg a (show (0 : Int) ≤ 1000 by decide)
    by_cases hy : 0 < y
    · rw [if_pos hy]
      have := (upV_bound (a := 1000 * y) (b := 1000 - l) (by omega) (by omega)).1
      omega
    · rw [if_neg hy]
      have b := Int.mul_nonneg (show 0 ≤ -y by omega) (show 0 ≤ 1000 - l by omega)
      rw [Int.tdiv_eq_ediv_of_nonneg b]
      have c := Int.mul_le_mul_of_nonneg_right (show -y ≤ -x by omega) (show 0 ≤ 1000 - l by omega)
      have := Int.ediv_le_ediv (c := 1000) (by decide) c
      omega
theorem pow_mono {l f s s' : Int} (l0 : 0 ≤ l) (l1 : l ≤ 500) (hf : 0 ≤ f) (h0 : 0 ≤ s) (h : s ≤ s') : powV l f s ≤ powV l f s' := pow_of l0 l1 (work_mono hf h0 h)
theorem pow_anti {l f s s' : Int} (l0 : 0 ≤ l) (l1 : l ≤ 500) (hf : f ≤ 0) (h0 : 0 ≤ s) (h : s ≤ s') : powV l f s' ≤ powV l f s := pow_of l0 l1 (work_anti hf h0 h)
theorem pow_zero (l f : Int) : powV l f 0 = 0 := by unfold powV workV; rw [Int.mul_zero]; simp
/-- Slower is possible, too. -/
theorem can_slow {p m l f s s' : Int} (hk : motorOk p m l = true) (h0 : 0 ≤ s) (h : s ≤ s') (hc : canV p m l f s' = true) : canV p m l f s = true := by
  obtain ⟨⟨a, b⟩, ⟨c, d⟩, e, g⟩ := motorOk_bd hk
  unfold canV at *
  rw [Bool.and_eq_true, decide_eq_true_eq, decide_eq_true_eq] at *
  refine ⟨hc.1, ?_⟩
  by_cases hf : 0 ≤ f
  · exact Int.le_trans (pow_mono e g hf h0 h) hc.2
  · have := pow_anti (l := l) (f := f) (s := 0) (s' := s) e g (by omega) (Int.le_refl _) h0
    rw [pow_zero] at this
    omega
/-- The least speed that is too fast. -/
def fastN (p m l f : Int) : Nat := fst (fun j => !canV p m l f j) 20001
def speedC (p m l f : Int) : Int := if motorOk p m l = true then (if inB f (-1000000) 1000000 = true then (if m < f then 6 else 0) else 2) else 1
def speedV' (p m l f : Int) : Int := if speedC p m l f = 0 then (fastN p m l f : Int) - 1 else 0
theorem fast_low {p m l f x : Int} (h0 : 0 ≤ x) (h : x < fastN p m l f) : canV p m l f x = true := by
  obtain ⟨j, rfl⟩ : ∃ j : Nat, x = j := ⟨x.toNat, by omega⟩
  have := fst_false (q := fun j : Nat => !canV p m l f j) (j := j) (n := 20001) (by unfold fastN at h; omega)
  simpa using this
theorem fast_high {p m l f x : Int} (hk : motorOk p m l = true) (h : (fastN p m l f : Int) ≤ x) (h1 : x ≤ 20000) : canV p m l f x = false := by
  have ht := fst_true (q := fun j : Nat => !canV p m l f j) (n := 20001) (by unfold fastN at h; omega)
  cases hc : canV p m l f x
  · rfl
  · have := can_slow (s := (fastN p m l f : Int)) hk (by omega) h hc
    unfold fastN at this
    simp only [this] at ht
    exact absurd ht (by decide)
theorem fast_bd (p m l f : Int) : fastN p m l f ≤ 20001 := fst_le _ _
theorem fast_pos {p m l f : Int} (hk : motorOk p m l = true) (hf : ¬ m < f) : 1 ≤ fastN p m l f := by
  rcases Nat.eq_zero_or_pos (fastN p m l f) with h | h
  · have := fast_high (p := p) (m := m) (l := l) (f := f) (x := 0) hk (by omega) (by omega)
    obtain ⟨⟨a, b⟩, ⟨c, d⟩, e, g⟩ := motorOk_bd hk
    unfold canV at this
    rw [pow_zero, decide_eq_true (show f ≤ m by omega), decide_eq_true (show (0 : Int) ≤ p by omega)] at this
    exact absurd this (by decide)
  · exact h
theorem need_0 {p m l f s : Int} (hk : motorOk p m l = true) (hf : inB f (-1000000) 1000000 = true) (hs : inB s 0 20000 = true) (hc : canV p m l f s = true) : needC p m l f s = 0 ∧ needN p m l f s = powV l f s := by
  have e : needC p m l f s = 0 := by unfold needC; rw [if_pos hk, hf, hs, hc]; rfl
  exact ⟨e, by unfold needN; rw [if_pos e]⟩
theorem need_3 {p m l f s : Int} (hk : motorOk p m l = true) (hf : inB f (-1000000) 1000000 = true) (hs : inB s 0 20000 = true) (hc : canV p m l f s = false) : needC p m l f s = 6 ∧ needN p m l f s = 0 := by
  have e : needC p m l f s = 6 := by unfold needC; rw [if_pos hk, hf, hs, hc]; rfl
  exact ⟨e, by unfold needN; rw [e]; rfl⟩
theorem need_2 {p m l f s : Int} (hk : motorOk p m l = true) (h : (inB f (-1000000) 1000000 && inB s 0 20000) = false) : needC p m l f s = 2 ∧ needN p m l f s = 0 := by
  have e : needC p m l f s = 2 := by unfold needC; rw [if_pos hk, h]; rfl
  exact ⟨e, by unfold needN; rw [e]; rfl⟩
theorem need_1 {p m l f s : Int} (hk : motorOk p m l = false) : needC p m l f s = 1 ∧ needN p m l f s = 0 := by
  have e : needC p m l f s = 1 := by unfold needC; rw [hk]; rfl
  exact ⟨e, by unfold needN; rw [e]; rfl⟩
/-- What the law of motors says of the greatest speed. -/
theorem speed_law {p m l f : Int} (h : speedC p m l f = 0) :
    0 ≤ speedV' p m l f ∧ needC p m l f (speedV' p m l f) = 0 ∧ needN p m l f (speedV' p m l f) ≤ p ∧ needC p m l f (speedV' p m l f + 1) ≠ 0 ∧ (speedV' p m l f < 20000 → needC p m l f (speedV' p m l f + 1) = 6) ∧
    needC p m l f ((speedV' p m l f).tdiv 2) = 0 ∧ (0 ≤ f → needN p m l f ((speedV' p m l f).tdiv 2) ≤ needN p m l f (speedV' p m l f)) ∧ (f ≤ 0 → needN p m l f (speedV' p m l f) ≤ needN p m l f ((speedV' p m l f).tdiv 2)) := by
  have hv : speedV' p m l f = (fastN p m l f : Int) - 1 := by unfold speedV'; rw [if_pos h]
  unfold speedC at h
  cases hk : motorOk p m l
  · rw [hk] at h; simp at h
  rw [hk, if_pos rfl] at h
  cases hf : inB f (-1000000) 1000000
  · rw [hf] at h; simp at h
  rw [hf, if_pos rfl] at h
  have hm : ¬ m < f := fun hm => by rw [if_pos hm] at h; exact absurd h (by decide)
  obtain ⟨⟨a, b⟩, ⟨c, d⟩, e, g⟩ := motorOk_bd hk
  have h1 := fast_pos hk hm
  have h2 := fast_bd p m l f
  rw [hv]
  have hl := fun x h0 h => @fast_low p m l f x h0 h
  have hh := fun x h h1 => @fast_high p m l f x hk h h1
  generalize fastN p m l f = N at *
  have c1 := hl ((N : Int) - 1) (by omega) (by omega)
  have i1 : inB ((N : Int) - 1) 0 20000 = true := inB_true.2 (by omega)
  have n1 := need_0 hk hf i1 c1
  rw [Int.tdiv_eq_ediv_of_nonneg (by omega)]
  have c2 := hl (((N : Int) - 1) / 2) (by omega) (by omega)
  have i2 : inB (((N : Int) - 1) / 2) 0 20000 = true := inB_true.2 (by omega)
  have n2 := need_0 hk hf i2 c2
  have hlt : (N : Int) - 1 < 20000 → needC p m l f ((N : Int) - 1 + 1) = 6 := fun h3 => by
    have e1 : (N : Int) - 1 + 1 = N := by omega
    rw [e1]
    exact (need_3 hk hf (inB_true.2 (by omega)) (hh N (Int.le_refl _) (by omega))).1
  refine ⟨by omega, n1.1, ?_, ?_, hlt, n2.1, ?_, ?_⟩
  · rw [n1.2]
    unfold canV at c1
    rw [Bool.and_eq_true, decide_eq_true_eq, decide_eq_true_eq] at c1
    exact c1.2
  · intro h0
    by_cases h3 : (N : Int) - 1 < 20000
    · rw [hlt h3] at h0; exact absurd h0 (by decide)
    · have : inB ((N : Int) - 1 + 1) 0 20000 = false := by
        cases hi : inB ((N : Int) - 1 + 1) 0 20000
        · rfl
        · have := inB_true.1 hi; omega
      rw [(need_2 hk (by rw [this, Bool.and_false])).1] at h0
      exact absurd h0 (by decide)
  · intro hf0
    rw [n1.2, n2.2]
    exact pow_mono e g hf0 (by omega) (by omega)
  · intro hf0
    rw [n1.2, n2.2]
    exact pow_anti e g hf0 (by omega) (by omega)

/-! Energies. -/
def posS (l s : Int) (F : Nat → Int) : Nat → Int
  | 0 => 0
  | k + 1 => posS l s F k + max 0 (powV l (F k) s)
def negS (l s : Int) (F : Nat → Int) : Nat → Int
  | 0 => 0
  | k + 1 => negS l s F k + max 0 (-powV l (F k) s)
def sumS (l s : Int) (F : Nat → Int) : Nat → Int
  | 0 => 0
  | k + 1 => sumS l s F k + powV l (F k) s
def forcesOk (F : Nat → Int) (n : Nat) : Bool := decide (n ≤ 60) && !any (fun j => !inB (F j) (-1000000) 1000000) n
def allCan (p m l s : Int) (F : Nat → Int) (n : Nat) : Bool := !any (fun j => !canV p m l (F j) s) n
def enC (p m l s t : Int) (F : Nat → Int) (n : Nat) : Int := if motorOk p m l = true then (if (forcesOk F n && (inB s 0 20000 && inB t 0 100000)) = true then (if allCan p m l s F n = true then 0 else 6) else 2) else 1
def enP (p m l s t : Int) (F : Nat → Int) (n : Nat) : Int := if enC p m l s t F n = 0 then posS l s F n * t else 0
def enN (p m l s t : Int) (F : Nat → Int) (n : Nat) : Int := if enC p m l s t F n = 0 then negS l s F n * t else 0
theorem sums_bd {l s : Int} {F : Nat → Int} {n : Nat} (hb : ∀ j, j < n → -20000000 ≤ powV l (F j) s ∧ powV l (F j) s ≤ 20000000000) : ∀ k, k ≤ n →
    (0 ≤ posS l s F k ∧ posS l s F k ≤ 20000000000 * k) ∧ (0 ≤ negS l s F k ∧ negS l s F k ≤ 20000000 * k) ∧ sumS l s F k = posS l s F k - negS l s F k
  | 0, _ => ⟨⟨Int.le_refl _, by simp [posS]⟩, ⟨Int.le_refl _, by simp [negS]⟩, rfl⟩
  | k + 1, h => by
    obtain ⟨⟨a1, a2⟩, ⟨b1, b2⟩, c⟩ := sums_bd hb k (by omega)
    have := hb k (by omega)
    unfold posS negS sumS
    generalize powV l (F k) s = x at *
    omega
theorem energy_law {p m l s t : Int} {F : Nat → Int} {n : Nat} (h : enC p m l s t F n = 0) :
    motorOk p m l = true ∧ forcesOk F n = true ∧ (∀ j, j < n → needC p m l (F j) s = 0 ∧ needN p m l (F j) s = powV l (F j) s) ∧ 0 ≤ enP p m l s t F n ∧ 0 ≤ enN p m l s t F n ∧ enP p m l s t F n - enN p m l s t F n = sumS l s F n * t ∧ (∀ k, k ≤ n → -1200000000 ≤ sumS l s F k ∧ sumS l s F k ≤ 1200000000000) ∧ 0 ≤ t ∧ t ≤ 100000 ∧ enP p m l s t F n ≤ 120000000000000000 ∧ enN p m l s t F n ≤ 120000000000000 := by
  have hp : enP p m l s t F n = posS l s F n * t := by unfold enP; rw [if_pos h]
  have hn : enN p m l s t F n = negS l s F n * t := by unfold enN; rw [if_pos h]
  unfold enC at h
  cases hk : motorOk p m l
  · rw [hk] at h; simp at h
  rw [hk, if_pos rfl] at h
  cases hf : (forcesOk F n && (inB s 0 20000 && inB t 0 100000))
  · rw [hf] at h; simp at h
  rw [hf, if_pos rfl] at h
  cases hc : allCan p m l s F n
  · rw [hc] at h; simp at h
  rw [Bool.and_eq_true, Bool.and_eq_true] at hf
  obtain ⟨h1, h2, h3⟩ := hf
  have h1' := h1
  unfold forcesOk at h1'
  rw [Bool.and_eq_true, decide_eq_true_eq] at h1'
  have hF : ∀ j, j < n → inB (F j) (-1000000) 1000000 = true := fun j hj => by
    have := any_false.1 (show any (fun j => !inB (F j) (-1000000) 1000000) n = false by simpa using h1'.2) j hj
    simpa using this
  have hC : ∀ j, j < n → canV p m l (F j) s = true := fun j hj => by
    have := any_false.1 (show any (fun j => !canV p m l (F j) s) n = false by unfold allCan at hc; simpa using hc) j hj
    simpa using this
  obtain ⟨⟨a, b⟩, ⟨c, d⟩, e, g⟩ := motorOk_bd hk
  have s1 := inB_true.1 h2
  have t1 := inB_true.1 h3
  have hs := sums_bd (n := n) (fun j hj => by have := inB_true.1 (hF j hj); exact pow_bd (l := l) (f := F j) (s := s) this.1 this.2 s1.1 s1.2 e g)
  have hsn := hs n (Nat.le_refl _)
  refine ⟨rfl, h1, fun j hj => need_0 hk (hF j hj) h2 (hC j hj), ?_, ?_, ?_, ?_, t1.1, t1.2, ?_, ?_⟩
  · rw [hp]; exact Int.mul_nonneg hsn.1.1 t1.1
  · rw [hn]; exact Int.mul_nonneg hsn.2.1.1 t1.1
  · rw [hp, hn, hsn.2.2, Int.sub_mul]
  · intro k hk
    have := hs k hk
    omega
  · rw [hp]
    have := mul_bd (a := 1200000000000) (b := 100000) hsn.1.1 (by omega) t1.1 t1.2
    omega
  · rw [hn]
    have := mul_bd (a := 1200000000) (b := 100000) hsn.2.1.1 (by omega) t1.1 t1.2
    omega

/-! The hardest pull. -/
def absF (x : Int) : Int := if x < 0 then -x else x
/-- The best index of the first k, k positive. -/
def bestF (F : Nat → Int) : Nat → Nat
  | 0 => 0
  | k + 1 => if absF (F (bestF F k)) < absF (F k) then k else bestF F k
theorem bestF_succ (F : Nat → Int) (k : Nat) : bestF F (k + 1) = if absF (F (bestF F k)) < absF (F k) then k else bestF F k := rfl
theorem bestF_lt (F : Nat → Int) : ∀ n, bestF F (n + 1) < n + 1
  | 0 => by rw [bestF_succ]; split <;> first | decide | (show (0 : Nat) < _; decide)
  | k + 1 => by
    have h := bestF_lt F k
    rw [bestF_succ F (k + 1)]
    generalize bestF F (k + 1) = b at *
    split <;> omega
end Go.Proofs.Ytejhngkbkcalaaa
