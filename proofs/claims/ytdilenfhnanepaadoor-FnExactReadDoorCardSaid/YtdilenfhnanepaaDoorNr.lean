/-
  Plain: a numeral read back (for the readers).
-/
import Derived.Lib.Atoi
import Derived.Lib.ItoaNum
import Derived.Test.YtdilenfhnanepaaDoorPl
namespace Go.Proofs.YtdilenfhnanepaaDoor
open Go.Lib (itoa decDigits decFrom digitVal)
set_option linter.unusedVariables false

theorem from_snoc (b : UInt8) : ∀ (l : List UInt8) (acc : Nat), decFrom acc (l ++ [b]) = (decFrom acc l).bind fun n => (digitVal b).map fun d => n * 10 + d
  | [], acc => by
    show (match digitVal b with | some d => decFrom (acc * 10 + d) [] | none => none) = (digitVal b).map fun d => acc * 10 + d
    cases digitVal b <;> rfl
  | a :: l, acc => by
    show (match digitVal a with | some d => decFrom (acc * 10 + d) (l ++ [b]) | none => none) = (match digitVal a with | some d => decFrom (acc * 10 + d) l | none => none).bind _
    cases digitVal a with
    | none => rfl
    | some d => exact from_snoc b l _
theorem digit_of {i : Nat} (h : i < 10) : digitVal (UInt8.ofNat (48 + i)) = some i := by
  unfold digitVal
  rw [show (UInt8.ofNat (48 + i)).toNat = 48 + i by simp; omega, if_pos (by omega)]
  congr 1; omega
theorem of_digit {b : UInt8} {d : Nat} (h : digitVal b = some d) : d < 10 ∧ b = UInt8.ofNat (48 + d) := by
  unfold digitVal at h
  split at h
  · rename_i hb
    obtain rfl := Option.some.inj h
    refine ⟨by omega, ?_⟩
    rw [show 48 + (b.toNat - 48) = b.toNat by omega]; simp
  · cases h
theorem from_dec (u : Nat) : decFrom 0 (decDigits u) = some u := by
  induction u using Nat.strongRecOn with
  | _ u ih =>
    rw [decDigits]
    split
    · rename_i h
      show (match digitVal (UInt8.ofNat (48 + u)) with | some d => decFrom (0 * 10 + d) [] | none => none) = some u
      rw [digit_of h]; simp [decFrom]
    · rename_i h
      rw [from_snoc, ih (u / 10) (by omega), digit_of (Nat.mod_lt _ (by omega))]
      simp only [Option.bind_some, Option.map_some]
      congr 1; omega
theorem dec_ne (u : Nat) : decDigits u ≠ [] := by
  rw [decDigits]; split <;> simp
theorem dec_of_from : ∀ (k : Nat) (l : List UInt8) (u : Nat), l.length = k → decFrom 0 l = some u → l ≠ [] → (l.head? = some 48 → l.length = 1) → l = decDigits u
  | 0, l, u, hk, _, hne, _ => absurd (List.length_eq_zero_iff.1 hk) hne
  | k + 1, l, u, hk, h, hne, hz => by
    obtain ⟨l', b, rfl⟩ : ∃ l' b, l = l' ++ [b] := ⟨l.dropLast, l.getLast hne, (List.dropLast_concat_getLast hne).symm⟩
    rw [from_snoc] at h
    cases hn : decFrom 0 l' with
    | none => rw [hn] at h; cases h
    | some n =>
      rw [hn] at h
      simp only [Option.bind_some] at h
      cases hd : digitVal b with
      | none => rw [hd] at h; cases h
      | some d =>
        rw [hd] at h
        obtain rfl := Option.some.inj h
        obtain ⟨hd10, rfl⟩ := of_digit hd
        show _ = decDigits (n * 10 + d)
        by_cases he : l' = []
        · subst he
          have : n = 0 := by simpa [decFrom] using hn.symm
          subst this
          rw [decDigits, dif_pos (by simp only [Option.map_some] at *; omega)]
          simp
        · have hl1 : 0 < l'.length := List.length_pos_iff.2 he
          have hh : (l' ++ [UInt8.ofNat (48 + d)]).head? = l'.head? := by cases l' with | nil => exact absurd rfl he | cons a t => rfl
          rw [hh] at hz
          have hz' : l'.head? ≠ some 48 := fun h48 => by
            have := hz h48
            rw [List.length_append, List.length_singleton] at this
            omega
          have ih := dec_of_from k l' n (by rw [List.length_append] at hk; simpa using hk) hn he (fun h => absurd h hz')
          have hn1 : n ≠ 0 := by
            rintro rfl
            rw [ih] at hz'
            exact hz' (by rw [decDigits, dif_pos (by omega)]; rfl)
          rw [decDigits, dif_neg (by omega)]
          rw [show (n * 10 + d) / 10 = n by omega, show (n * 10 + d) % 10 = d by omega, ← ih]
theorem dec_head {u : Nat} (h : (decDigits u).head? = some 48) : (decDigits u).length = 1 := by
  induction u using Nat.strongRecOn with
  | _ u ih =>
    rw [decDigits] at h ⊢
    split
    · rfl
    · rename_i hu
      rw [dif_neg hu] at h
      have hh : (decDigits (u / 10) ++ [UInt8.ofNat (48 + u % 10)]).head? = (decDigits (u / 10)).head? := by
        have := dec_ne (u / 10)
        cases hc : decDigits (u / 10) with
        | nil => exact absurd hc this
        | cons a t => rfl
      rw [hh] at h
      have h1 := ih (u / 10) (by omega) h
      obtain ⟨a, ha⟩ := List.length_eq_one_iff.1 h1
      rw [ha] at h
      obtain rfl : a = 48 := by simpa using h
      have hf := from_dec (u / 10)
      rw [ha] at hf
      have : (0 : Nat) = u / 10 := by simpa [decFrom, digitVal] using hf
      omega

end Go.Proofs.YtdilenfhnanepaaDoor
