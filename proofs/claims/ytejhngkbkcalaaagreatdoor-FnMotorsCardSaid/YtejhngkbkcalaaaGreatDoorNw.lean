/-
  Plain: a text split at a byte, and cut at it. No program in sight.
-/
import Derived.Test.YtejhngkbkcalaaaGreatDoorSpl
import Derived.Test.YtejhngkbkcalaaaGreatDoorNv
namespace Go.Proofs.YtejhngkbkcalaaaGreatDoor
open Go.RowKit
open Go.Lib (itoa decDigits)
set_option linter.unusedVariables false
set_option linter.unusedSimpArgs false

def stepS (c : UInt8) (p : List (List UInt8) × List UInt8) (b : UInt8) : List (List UInt8) × List UInt8 := if b = c then (p.1 ++ [p.2], []) else (p.1, p.2 ++ [b])
def splS (c : UInt8) (l : List UInt8) : List (List UInt8) × List UInt8 := l.foldl (stepS c) ([], [])
theorem ext_list (s : ByteArray) (a b : Nat) : (s.extract a b).data.toList = (s.data.toList.take b).drop a := by
  rw [ByteArray.data_extract, Array.toList_extract, List.extract_eq_take_drop, List.drop_take]
theorem splS_spL (s : ByteArray) (c : UInt8) : ∀ k, k ≤ s.size → splS c (s.data.toList.take k) = ((spL s (c.toNat : Int) k).map (·.data.toList), (s.extract (spF s (c.toNat : Int) k) k).data.toList)
  | 0, _ => by simp [splS, spL, spF, ext_list]
  | k + 1, hk => by
    have ih := splS_spL s c k (by omega)
    have hf := spF_le s (c.toNat : Int) k
    have hl : k < s.data.toList.length := by rw [len_data]; omega
    have hb : ((s.get! k).toNat : Int) = ((s.data.toList[k]).toNat : Int) := nb_at hl
    rw [ext_list] at ih ⊢
    rw [List.take_add_one, List.getElem?_eq_getElem hl]
    unfold splS at ih ⊢
    show List.foldl (stepS c) ([], []) (List.take k s.data.toList ++ [s.data.toList[k]]) = _
    rw [List.foldl_append, ih]
    show stepS c _ _ = _
    unfold stepS
    by_cases hc : s.data.toList[k] = c
    · have hi : ((s.get! k).toNat : Int) = (c.toNat : Int) := by rw [hb, hc]
      rw [if_pos hc, spL, if_pos hi, spF, if_pos hi, List.map_append]
      simp [ext_list, List.drop_take]
      try omega
    · have hi : ¬ ((s.get! k).toNat : Int) = (c.toNat : Int) := by
        rw [hb]
        exact fun e => hc (UInt8.toNat_inj.1 (by omega))
      rw [if_neg hc, spL, if_neg hi, spF, if_neg hi]
      congr 1
      show List.drop _ _ ++ _ = List.drop _ (_ ++ [s.data.toList[k]])
      rw [List.drop_append_of_le_length]
      rw [List.length_take]; omega
theorem split_list (s : ByteArray) (c : UInt8) : (splitL s (c.toNat : Int)).map (·.data.toList) = (splS c s.data.toList).1 ++ [(splS c s.data.toList).2] := by
  have := splS_spL s c s.size (Nat.le_refl _)
  rw [List.take_of_length_le (by rw [len_data]; exact Nat.le_refl _)] at this
  rw [this]
  unfold splitL
  rw [List.map_append]; rfl
theorem splS_free {c : UInt8} : ∀ {l : List UInt8} {L : List (List UInt8)} {cur : List UInt8}, c ∉ l → l.foldl (stepS c) (L, cur) = (L, cur ++ l)
  | [], L, cur, _ => by simp
  | b :: l, L, cur, h => by
    have hb : b ≠ c := fun e => h (by simp [e])
    have hl : c ∉ l := fun e => h (by simp [e])
    show List.foldl _ (stepS c (L, cur) b) l = _
    rw [show stepS c (L, cur) b = (L, cur ++ [b]) from if_neg hb, splS_free hl]
    simp
theorem splS_join {c : UInt8} : ∀ {l : List UInt8} {L0 L : List (List UInt8)} {cur0 cur : List UInt8}, l.foldl (stepS c) (L0, cur0) = (L, cur) →
    (L0.map (· ++ [c])).flatten ++ cur0 ++ l = (L.map (· ++ [c])).flatten ++ cur ∧ ((∀ x ∈ L0, c ∉ x) → c ∉ cur0 → (∀ x ∈ L, c ∉ x) ∧ c ∉ cur)
  | [], L0, L, cur0, cur, h => by
    obtain ⟨rfl, rfl⟩ : L0 = L ∧ cur0 = cur := by simpa using h
    exact ⟨by simp, fun a b => ⟨a, b⟩⟩
  | b :: l, L0, L, cur0, cur, h => by
    have h' : l.foldl (stepS c) (stepS c (L0, cur0) b) = (L, cur) := h
    by_cases hb : b = c
    · rw [show stepS c (L0, cur0) b = (L0 ++ [cur0], []) from if_pos hb] at h'
      obtain ⟨e1, e2⟩ := splS_join (l := l) h'
      refine ⟨by rw [← e1, hb]; simp, fun a b => e2 (fun x hx => ?_) (by simp)⟩
      simp only [List.mem_append, List.mem_singleton] at hx
      rcases hx with hx | rfl
      · exact a x hx
      · exact b
    · rw [show stepS c (L0, cur0) b = (L0, cur0 ++ [b]) from if_neg hb] at h'
      obtain ⟨e1, e2⟩ := splS_join (l := l) h'
      refine ⟨by rw [← e1]; simp, fun a h2 => e2 a (by simp [h2]; exact fun e => hb e.symm)⟩
theorem map_data_inj : ∀ {a b : List ByteArray}, a.map (·.data.toList) = b.map (·.data.toList) → a = b
  | [], [], _ => rfl
  | [], _ :: _, h => by cases h
  | _ :: _, [], h => by cases h
  | x :: a, y :: b, h => by
    rw [List.map_cons, List.map_cons] at h
    obtain ⟨h1, h2⟩ := List.cons.inj h
    rw [data_inj h1, map_data_inj h2]
theorem split_two {p q : ByteArray} {c : UInt8} (hp : c ∉ p.data.toList) (hq : c ∉ q.data.toList) : splitL (p ++ ⟨#[c]⟩ ++ q) (c.toNat : Int) = [p, q] := by
  apply map_data_inj
  rw [split_list, app_list, app_list]
  unfold splS
  rw [List.foldl_append, List.foldl_append, splS_free hp]
  have e : List.foldl (stepS c) ([], [] ++ p.data.toList) (⟨#[c]⟩ : ByteArray).data.toList = ([p.data.toList], []) := by
    show stepS c _ c = _
    unfold stepS; rw [if_pos rfl]; simp
  rw [e, splS_free hq]
  simp
theorem split_three {p q r : ByteArray} {c : UInt8} (hp : c ∉ p.data.toList) (hq : c ∉ q.data.toList) (hr : c ∉ r.data.toList) : splitL (p ++ ⟨#[c]⟩ ++ q ++ ⟨#[c]⟩ ++ r) (c.toNat : Int) = [p, q, r] := by
  apply map_data_inj
  rw [split_list, app_list, app_list, app_list, app_list]
  unfold splS
  rw [List.foldl_append, List.foldl_append, List.foldl_append, List.foldl_append, splS_free hp]
  have e : ∀ L x, List.foldl (stepS c) (L, x) (⟨#[c]⟩ : ByteArray).data.toList = (L ++ [x], []) := fun L x => by
    show stepS c _ c = _
    unfold stepS; rw [if_pos rfl]
  rw [e, splS_free hq, e, splS_free hr]
  simp
theorem split_is {s : ByteArray} {c : UInt8} {L : List ByteArray} {x : ByteArray} (h : splitL s (c.toNat : Int) = L ++ [x]) :
    s.data.toList = ((L.map (·.data.toList)).map (· ++ [c])).flatten ++ x.data.toList ∧ (∀ y ∈ L, c ∉ y.data.toList) ∧ c ∉ x.data.toList := by
  have h1 := split_list s c
  rw [h, List.map_append] at h1
  obtain ⟨a, b⟩ := List.append_inj' h1 rfl
  have hx : x.data.toList = (splS c s.data.toList).2 := by simpa using b
  have hj := splS_join (c := c) (l := s.data.toList) (L0 := []) (cur0 := []) (L := (splS c s.data.toList).1) (cur := (splS c s.data.toList).2) rfl
  rw [← a, ← hx] at hj
  obtain ⟨e1, e2⟩ := hj
  obtain ⟨e3, e4⟩ := e2 (by simp) (by simp)
  exact ⟨by simpa using e1, fun y hy => e3 _ (List.mem_map.2 ⟨y, hy, rfl⟩), e4⟩
theorem split_is_two {s p q : ByteArray} {c : UInt8} (h : splitL s (c.toNat : Int) = [p, q]) : s = p ++ ⟨#[c]⟩ ++ q ∧ c ∉ p.data.toList ∧ c ∉ q.data.toList := by
  obtain ⟨e1, e2, e3⟩ := split_is (L := [p]) (x := q) h
  exact ⟨data_inj (by rw [e1, app_list, app_list]; simp), e2 p (by simp), e3⟩
theorem split_is_three {s p q r : ByteArray} {c : UInt8} (h : splitL s (c.toNat : Int) = [p, q, r]) : s = p ++ ⟨#[c]⟩ ++ q ++ ⟨#[c]⟩ ++ r ∧ c ∉ p.data.toList ∧ c ∉ q.data.toList ∧ c ∉ r.data.toList := by
  obtain ⟨e1, e2, e3⟩ := split_is (L := [p, q]) (x := r) h
  exact ⟨data_inj (by rw [e1, app_list, app_list, app_list, app_list]; simp), e2 p (by simp), e2 q (by simp), e3⟩
theorem dec_all : ∀ (k u : Nat), u ≤ k → ∀ b ∈ decDigits u, 48 ≤ b.toNat ∧ b.toNat ≤ 57
  | k, u, hk, b, hb => by
    rw [decDigits] at hb
    split at hb
    · obtain rfl : b = UInt8.ofNat (48 + u) := by simpa using hb
      rw [show (UInt8.ofNat (48 + u)).toNat = 48 + u by simp; omega]; omega
    · rename_i h10
      rcases List.mem_append.1 hb with h | h
      · exact dec_all (u / 10) (u / 10) (Nat.le_refl _) b h
      · obtain rfl : b = UInt8.ofNat (48 + u % 10) := by simpa using h
        rw [show (UInt8.ofNat (48 + u % 10)).toNat = 48 + u % 10 by simp; omega]; omega
  termination_by _ u => u
theorem dtx_free (z : Int) {c : UInt8} (h : c.toNat ≠ 45 ∧ ¬ (48 ≤ c.toNat ∧ c.toNat ≤ 57)) : c ∉ (dtx z).data.toList := by
  intro hm
  have hm' : c ∈ itoa z := by simpa [dtx] using hm
  unfold itoa at hm'
  split at hm'
  · rcases List.mem_cons.1 hm' with e | e
    · exact h.1 (by rw [e]; rfl)
    · exact h.2 (dec_all _ _ (Nat.le_refl _) _ e)
  · exact h.2 (dec_all _ _ (Nat.le_refl _) _ hm')
end Go.Proofs.YtejhngkbkcalaaaGreatDoor
