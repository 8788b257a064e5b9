/-
  Plain: which texts are numerals of at most 18 digits. No program in sight.
-/
import Derived.Test.YtejhngkbkcalaaaGreatDoorNu
import Derived.Test.YtejhngkbkcalaaaGreatDoorNc
import Derived.Lib.ItoaMem
import Derived.Lib.ParseIntBTie
import Derived.Lib.Strings
namespace Go.Proofs.YtejhngkbkcalaaaGreatDoor
open Go.RowKit
open Go.Lib (itoa decDigits decFrom digitVal)
set_option linter.unusedVariables false
set_option linter.unusedSimpArgs false

theorem nb_at {s : ByteArray} {j : Nat} (h : j < s.data.toList.length) : nb s j = ((s.data.toList[j]).toNat : Int) := by
  have h2 : j < s.size := by
    have e : s.data.toList.length = s.size := by rw [Array.length_toList]; rfl
    omega
  unfold nb
  rw [← get_byte h2]
  rfl
theorem dig_in {b : UInt8} : inB (b.toNat : Int) 48 57 = (digitVal b).isSome := by
  unfold digitVal
  by_cases h : 48 ≤ b.toNat ∧ b.toNat ≤ 57
  · rw [if_pos h]; exact inB_true.2 (by omega)
  · rw [if_neg h]; exact inB_false.2 (by omega)
theorem from_nV (s : ByteArray) (o : Nat) : ∀ k, o + k ≤ s.size → decFrom 0 ((s.data.toList.drop o).take k) = if any (fun j => !inB (nb s (o + j)) 48 57) k = false then some (nV s o k).toNat else none
  | 0, _ => by simp [decFrom, any, fst, nV]
  | k + 1, hk => by
    have ih := from_nV s o k (by omega)
    have hl : k < (s.data.toList.drop o).length := by rw [List.length_drop, len_data]; omega
    rw [List.take_add_one, List.getElem?_eq_getElem hl]
    show decFrom 0 (List.take k _ ++ [(s.data.toList.drop o)[k]]) = _
    rw [from_snoc, ih]
    have hb : nb s (o + k) = (((s.data.toList.drop o)[k]).toNat : Int) := by
      rw [nb_at (by rw [len_data]; omega)]; simp
    generalize (s.data.toList.drop o)[k] = b at *
    cases hd : any (fun j => !inB (nb s (o + j)) 48 57) k
    · rw [if_pos rfl]
      have hbd := nV_bd s o k hd
      have hin := dig_in (b := b)
      rw [← hb] at hin
      cases hv : digitVal b with
      | none =>
        rw [hv] at hin
        rw [if_neg (by rw [Bool.not_eq_false, any_true]; exact ⟨k, by omega, by simp [hin]⟩)]
        rfl
      | some d =>
        rw [hv] at hin
        obtain ⟨d10, rfl⟩ := of_digit hv
        rw [if_pos (any_step hd (by simp [hin]))]
        simp only [Option.bind_some, Option.map_some, Option.some.injEq]
        rw [nV, hb, show (UInt8.ofNat (48 + d)).toNat = 48 + d by simp; omega]
        omega
    · rw [if_neg (by decide), if_neg (by
        rw [Bool.not_eq_false, any_true]
        obtain ⟨j, hj, e⟩ := any_true.1 hd
        exact ⟨j, by omega, e⟩)]
      rfl
theorem from_lt : ∀ (k : Nat) (l : List UInt8) (u : Nat), l.length = k → decFrom 0 l = some u → u < 10 ^ k
  | 0, l, u, hk, h => by
    obtain rfl := List.length_eq_zero_iff.1 hk
    have : (0 : Nat) = u := by simpa [decFrom] using h
    omega
  | k + 1, l, u, hk, h => by
    have hne : l ≠ [] := by rintro rfl; simp at hk
    obtain ⟨l', b, rfl⟩ : ∃ l' b, l = l' ++ [b] := ⟨l.dropLast, l.getLast hne, (List.dropLast_concat_getLast hne).symm⟩
    rw [from_snoc] at h
    cases hn : decFrom 0 l' with
    | none => rw [hn] at h; cases h
    | some n =>
      rw [hn] at h
      simp only [Option.bind_some] at h
      cases hd : digitVal b with
      | none => rw [hd] at h; cases h
      | some d =>
        rw [hd] at h
        have ih := from_lt k l' n (by rw [List.length_append] at hk; simpa using hk) hn
        have := (of_digit hd).1
        have e : n * 10 + d = u := by simpa using h
        rw [Nat.pow_succ]; omega
theorem dec_short : ∀ (k : Nat) (u : Nat), 1 ≤ k → u < 10 ^ k → (decDigits u).length ≤ k
  | 0, _, h, _ => by omega
  | 1, u, _, h => by rw [decDigits, dif_pos (by simpa using h)]; simp
  | k + 2, u, _, h => by
    rw [decDigits]
    split
    · simp
    · have := dec_short (k + 1) (u / 10) (by omega) (by rw [Nat.pow_succ] at h; omega)
      rw [List.length_append]; simpa using this
theorem dec_digit {u : Nat} {b : UInt8} (h : (decDigits u).head? = some b) : 48 ≤ b.toNat ∧ b.toNat ≤ 57 := by
  have hf := from_dec u
  cases hl : decDigits u with
  | nil => rw [hl] at h; cases h
  | cons a t =>
    rw [hl] at h hf
    obtain rfl : a = b := by simpa using h
    have : digitVal a ≠ none := fun hn => by
      have e : decFrom 0 (a :: t) = match digitVal a with | some d => decFrom (0 * 10 + d) t | none => none := rfl
      rw [hn] at e; rw [e] at hf; cases hf
    unfold digitVal at this
    by_cases hr : 48 ≤ a.toNat ∧ a.toNat ≤ 57
    · exact hr
    · rw [if_neg hr] at this; exact absurd rfl this
theorem itoa_pos {u : Nat} : itoa (u : Int) = decDigits u := Go.Lib.itoa_nonneg u
theorem ten18 : (10 : Nat) ^ 18 = 1000000000000000000 := by decide
/-- The numerals: what the reference takes is the text of a number of at most 18 digits. -/
theorem num_text {s : ByteArray} (h : numOk s = true) : s = dtx (numR s) ∧ -1000000000000000000 < numR s ∧ numR s < 1000000000000000000 := by
  have hR : numR s = numV s := by unfold numR; rw [h]; rfl
  rw [hR]
  unfold numOk at h
  rw [Bool.and_eq_true, Bool.not_eq_true'] at h
  obtain ⟨hbad, hall⟩ := h
  unfold nBad at hbad
  rw [Bool.or_eq_false_iff, Bool.or_eq_false_iff, decide_eq_false_iff_not, decide_eq_false_iff_not] at hbad
  obtain ⟨⟨b1, b2⟩, b3⟩ := hbad
  unfold nAll at hall
  rw [Bool.not_eq_true'] at hall
  have ho : nOff s ≤ s.size := by unfold nOff; split <;> omega
  have hf := from_nV s (nOff s) (s.size - nOff s) (by omega)
  rw [hall, if_pos rfl, List.take_of_length_le (by rw [List.length_drop, len_data]; omega)] at hf
  have hbd := nV_bd s (nOff s) _ hall
  have hp := pow19 (k := s.size - nOff s) (by omega)
  have hlen : (s.data.toList.drop (nOff s)).length = s.size - nOff s := by rw [List.length_drop, len_data]
  have hne : s.data.toList.drop (nOff s) ≠ [] := fun e => by rw [e] at hlen; simp at hlen; omega
  have hz : (s.data.toList.drop (nOff s)).head? = some 48 → (s.data.toList.drop (nOff s)).length = 1 := fun e => by
    rw [List.head?_drop] at e
    have hlt : nOff s < s.data.toList.length := by rw [len_data]; omega
    rw [List.getElem?_eq_getElem hlt] at e
    have e2 : nb s (nOff s) = 48 := by rw [nb_at hlt, Option.some.inj e]; rfl
    rw [e2, decide_eq_true rfl, Bool.true_and, decide_eq_false_iff_not] at b3
    have : nOff s ≤ 1 := by unfold nOff; split <;> omega
    rw [hlen]; omega
  have hd := dec_of_from _ _ _ rfl hf hne hz
  unfold numV
  by_cases h1 : nOff s = 1
  · rw [h1] at hd hbd hp hf hz b1 ⊢
    rw [if_pos rfl]
    have hs1 : 0 < s.size ∧ nb s 0 = 45 := by
      unfold nOff at h1
      by_cases hc : 0 < s.size ∧ nb s 0 = 45
      · exact hc
      · rw [if_neg hc] at h1; omega
    have hlt : 0 < s.data.toList.length := by rw [len_data]; omega
    have h0 : s.data.toList[0] = 45 := by
      have := hs1.2
      rw [nb_at hlt] at this
      exact UInt8.toNat_inj.1 (by have e : (45 : UInt8).toNat = 45 := rfl; omega)
    have hcons : s.data.toList = 45 :: s.data.toList.drop 1 := by
      rw [← h0]; exact (List.getElem_cons_drop hlt).symm
    obtain ⟨u, hu⟩ : ∃ u : Nat, nV s 1 (s.size - 1) = u := ⟨_, (Int.toNat_of_nonneg hbd.1).symm⟩
    rw [hu] at hd hbd hf ⊢
    rw [Int.toNat_natCast] at hd hf
    have hu1 : 1 ≤ u := Nat.one_le_iff_ne_zero.2 fun e => by
      subst e
      have e0 : decDigits 0 = [48] := by rw [decDigits, dif_pos (by omega)]; rfl
      rw [e0] at hd
      have e1 := b3
      have hlt1 : 1 < s.data.toList.length := by
        have : (s.data.toList.drop 1).length = 1 := by rw [hd]; rfl
        rw [List.length_drop] at this; omega
      have e2 : nb s 1 = 48 := by
        rw [nb_at hlt1]
        have : (s.data.toList.drop 1)[0]? = some 48 := by rw [hd]; rfl
        rw [List.getElem?_drop, List.getElem?_eq_getElem (by omega)] at this
        rw [Option.some.inj this]; rfl
      rw [h1, e2, decide_eq_true rfl, Bool.true_and, decide_eq_false_iff_not] at e1
      rw [len_data] at hlt1; omega
    refine ⟨?_, by omega, by omega⟩
    unfold dtx
    rw [Go.Lib.itoa_neg u hu1, ← hd, ← hcons]
  · have h0 : nOff s = 0 := by unfold nOff at h1 ⊢; split <;> simp_all
    rw [h0] at hd hbd hp hf
    rw [if_neg h1]
    obtain ⟨u, hu⟩ : ∃ u : Nat, nV s 0 s.size = u := ⟨_, (Int.toNat_of_nonneg (by have := hbd.1; simpa using this)).symm⟩
    simp only [Nat.sub_zero, List.drop_zero] at hd hbd hp hf
    rw [hu] at hd hbd hf ⊢
    rw [Int.toNat_natCast] at hd hf
    refine ⟨?_, by omega, by omega⟩
    unfold dtx
    rw [Go.Lib.itoa_nonneg, ← hd]
/-- And each such number's text is taken. -/
theorem num_back {z : Int} (h0 : -1000000000000000000 < z) (h1 : z < 1000000000000000000) : numOk (dtx z) = true ∧ numR (dtx z) = z := by
  have key : ∀ (s : ByteArray) (o u : Nat), nOff s = o → s.data.toList.drop o = decDigits u → u < 10 ^ 18 → o + (decDigits u).length = s.size → (o = 1 → 1 ≤ u) → numOk s = true ∧ nV s o (s.size - o) = u := by
    intro s o u ho hd hu hsz hneg
    have hf := from_nV s o (s.size - o) (by omega)
    rw [List.take_of_length_le (by rw [List.length_drop, len_data]; omega), hd, from_dec] at hf
    cases hall : any (fun j => !inB (nb s (o + j)) 48 57) (s.size - o)
    · rw [hall, if_pos rfl] at hf
      have hbd := nV_bd s o _ hall
      refine ⟨?_, by have := Option.some.inj hf; omega⟩
      have hl1 : 1 ≤ (decDigits u).length := List.length_pos_iff.2 (dec_ne u)
      have hl2 := dec_short 18 u (by omega) hu
      unfold numOk nBad nAll
      rw [ho, hall, decide_eq_false (show ¬ s.size = o by omega), decide_eq_false (show ¬ 18 < s.size - o by omega)]
      have h3 : (decide (nb s o = 48) && decide (1 < s.size)) = false := by
        by_cases h48 : nb s o = 48
        · have hlt : o < s.data.toList.length := by rw [len_data]; omega
          have hh : (decDigits u).head? = some 48 := by
            rw [← hd, List.head?_drop, List.getElem?_eq_getElem hlt]
            rw [nb_at hlt] at h48
            congr 1
            exact UInt8.toNat_inj.1 (by have e : (48 : UInt8).toNat = 48 := rfl; omega)
          have hone := dec_head hh
          rw [decide_eq_true h48, Bool.true_and, decide_eq_false_iff_not]
          have ho1 : o ≤ 1 := by rw [← ho]; unfold nOff; split <;> omega
          rcases Nat.eq_zero_or_pos o with h | h
          · omega
          · exfalso
            have hu1 := hneg (by omega)
            obtain ⟨a, ha⟩ := List.length_eq_one_iff.1 hone
            rw [ha] at hh
            obtain rfl : a = 48 := by simpa using hh
            have hf0 := from_dec u
            rw [ha] at hf0
            have : (0 : Nat) = u := by simpa [decFrom, digitVal] using hf0
            omega
        · rw [decide_eq_false h48]; rfl
      rw [h3]; rfl
    · rw [hall, if_neg (by decide)] at hf; cases hf
  by_cases hneg : z < 0
  · obtain ⟨u, rfl⟩ : ∃ u : Nat, z = -(u : Int) := ⟨z.natAbs, by omega⟩
    have hd : (dtx (-(u : Int))).data.toList = 45 :: decDigits u := by unfold dtx; rw [Go.Lib.itoa_neg u (by omega)]
    have hsz : (dtx (-(u : Int))).size = 1 + (decDigits u).length := by rw [← len_data, hd]; simp; omega
    generalize dtx (-(u : Int)) = s at *
    have ho : nOff s = 1 := by
      unfold nOff
      rw [if_pos ⟨by omega, by rw [nb_at (by rw [len_data]; omega)]; simp [hd]⟩]
    obtain ⟨e1, e2⟩ := key s 1 u ho (by rw [hd]; rfl) (by rw [ten18]; omega) (by omega) (fun _ => by omega)
    refine ⟨e1, ?_⟩
    unfold numR numV
    rw [if_pos e1, if_pos ho, e2]
  · obtain ⟨u, rfl⟩ : ∃ u : Nat, z = u := ⟨z.toNat, by omega⟩
    have hd : (dtx (u : Int)).data.toList = decDigits u := by unfold dtx; rw [Go.Lib.itoa_nonneg]
    have hsz : (dtx (u : Int)).size = (decDigits u).length := by rw [← len_data, hd]
    generalize dtx (u : Int) = s at *
    have ho : nOff s = 0 := by
      unfold nOff
      rw [if_neg]
      rintro ⟨h2, h3⟩
      have hlt : 0 < s.data.toList.length := by rw [len_data]; omega
      rw [nb_at hlt] at h3
      have hh : (decDigits u).head? = some s.data.toList[0] := by rw [← hd, List.head?_eq_getElem?, List.getElem?_eq_getElem hlt]
      have := dec_digit hh
      omega
    obtain ⟨e1, e2⟩ := key s 0 u ho (by rw [hd]; rfl) (by rw [ten18]; omega) (by omega) (fun h => by omega)
    refine ⟨e1, ?_⟩
    unfold numR numV
    rw [if_pos e1, if_neg (by omega)]
    simpa using e2
theorem num_inj {a b : Int} (ha : -9223372036854775808 ≤ a) (h : dtx a = dtx b) (hb0 : -1000000000000000000 < b) (hb1 : b < 1000000000000000000) : a = b := by
  have e : itoa a = itoa b := by
    have : (dtx a).data.toList = (dtx b).data.toList := by rw [h]
    simpa [dtx] using this
  have inj : ∀ u v : Nat, decDigits u = decDigits v → u = v := fun u v e => by
    have := from_dec u
    rw [e, from_dec] at this
    exact (Option.some.inj this).symm
  have hd : ∀ u v : Nat, 45 :: decDigits u ≠ decDigits v := fun u v e => by
    have hh : (decDigits v).head? = some 45 := by rw [← e]; rfl
    have := dec_digit hh
    have e2 : (45 : UInt8).toNat = 45 := rfl
    omega
  by_cases h1 : a < 0 <;> by_cases h2 : b < 0
  · unfold itoa at e
    rw [if_pos h1, if_pos h2] at e
    have := inj _ _ (List.cons.inj e).2
    omega
  · unfold itoa at e
    rw [if_pos h1, if_neg h2] at e
    exact absurd e (hd _ _)
  · unfold itoa at e
    rw [if_neg h1, if_pos h2] at e
    exact absurd e.symm (hd _ _)
  · unfold itoa at e
    rw [if_neg h1, if_neg h2] at e
    have := inj _ _ e
    omega
/-- What is left of a text behind a '-'. -/
def bare (s : ByteArray) : List UInt8 := Go.Lib.trimPrefix s.data.toList [45]
theorem bare_dtx (z : Int) : bare (dtx z) = decDigits z.natAbs := by
  unfold bare dtx Go.Lib.trimPrefix Go.Lib.hasPrefix itoa
  split
  · rfl
  · have hne := dec_ne z.toNat
    rw [show z.natAbs = z.toNat by omega]
    show (if List.isPrefixOf [45] (decDigits z.toNat) = true then _ else decDigits z.toNat) = _
    rw [if_neg]
    intro hp
    cases hl : decDigits z.toNat with
    | nil => exact hne hl
    | cons b t =>
      rw [hl] at hp
      have hb : (45 : UInt8) = b := by simpa [List.isPrefixOf] using hp
      have hh : (decDigits z.toNat).head? = some 45 := by rw [hl, hb]; rfl
      have := dec_digit hh
      have e2 : (45 : UInt8).toNat = 45 := rfl
      omega
theorem lt_of_short {z : Int} (h : (bare (dtx z)).length ≤ 18) : -1000000000000000000 < z ∧ z < 1000000000000000000 := by
  rw [bare_dtx] at h
  have h1 := from_lt _ _ _ rfl (from_dec z.natAbs)
  have h2 := Nat.pow_le_pow_right (show 0 < 10 by omega) h
  rw [ten18] at h2
  omega
theorem short_of_lt {z : Int} (h0 : -1000000000000000000 < z) (h1 : z < 1000000000000000000) : 1 ≤ (bare (dtx z)).length ∧ (bare (dtx z)).length ≤ 18 := by
  rw [bare_dtx]
  exact ⟨List.length_pos_iff.2 (dec_ne _), dec_short 18 _ (by omega) (by rw [ten18]; omega)⟩
theorem parse10 : ∀ (l : List UInt8) (acc u : Nat), decFrom acc l = some u → u < 1000000000000000000 → Go.Lib.parseUintM (2 ^ 64 - 1) acc l = .ok u
  | [], acc, u, h, _ => by
    have : acc = u := by simpa [decFrom] using h
    subst this; rfl
  | b :: r, acc, u, h, hu => by
    have h' : (match digitVal b with | some d => decFrom (acc * 10 + d) r | none => none) = some u := h
    cases hd : digitVal b with
    | none => rw [hd] at h'; cases h'
    | some d =>
      rw [hd] at h'
      obtain ⟨d10, rfl⟩ := of_digit hd
      have hge : ∀ (l : List UInt8) (a v : Nat), decFrom a l = some v → a ≤ v := by
        intro l
        induction l with
        | nil => intro a v h; have : a = v := by simpa [decFrom] using h
                 omega
        | cons c t ih =>
          intro a v h
          have h' : (match digitVal c with | some d => decFrom (a * 10 + d) t | none => none) = some v := h
          cases hc : digitVal c with
          | none => rw [hc] at h'; cases h'
          | some e => rw [hc] at h'; have := ih _ _ h'; omega
      have h3 := hge r _ _ h'
      have e : (UInt8.ofNat (48 + d)).toNat = 48 + d := by simp; omega
      unfold Go.Lib.parseUintM
      rw [e, if_pos (by omega), if_neg (by omega), if_neg (by omega), show 48 + d - 48 = d by omega]
      exact parse10 r _ u h' hu
theorem parse_dtx {z : Int} (h0 : -1000000000000000000 < z) (h1 : z < 1000000000000000000) : Go.Lib.parseIntB 64 (dtx z).data.toList = .ok z := by
  have hp : ∀ u : Nat, u < 1000000000000000000 → Go.Lib.parseUintB 64 (decDigits u) = .ok u := fun u hu => by
    unfold Go.Lib.parseUintB
    rw [if_neg (dec_ne u)]
    exact parse10 _ 0 u (from_dec u) hu
  by_cases hneg : z < 0
  · obtain ⟨u, rfl⟩ : ∃ u : Nat, z = -(u : Int) := ⟨z.natAbs, by omega⟩
    have hd : (dtx (-(u : Int))).data.toList = 45 :: decDigits u := by unfold dtx; rw [Go.Lib.itoa_neg u (by omega)]
    rw [hd, Go.Lib.parseIntB_minus, hp u (by omega)]
    show (if 2 ^ (64 - 1) < u then _ else _) = _
    rw [if_neg (by omega)]
  · obtain ⟨u, rfl⟩ : ∃ u : Nat, z = u := ⟨z.toNat, by omega⟩
    have hd : (dtx (u : Int)).data.toList = decDigits u := by unfold dtx; rw [Go.Lib.itoa_nonneg]
    rw [hd]
    have hu := hp u (by omega)
    cases hl : decDigits u with
    | nil => exact absurd hl (dec_ne u)
    | cons b t =>
      have hb := dec_digit (u := u) (b := b) (by rw [hl]; rfl)
      rw [Go.Lib.parseIntB_plain 64 b t (by omega) (by omega), ← hl, hu]
      show (if 2 ^ (64 - 1) ≤ u then _ else _) = _
      rw [if_neg (by omega)]
theorem num_of_text {s : ByteArray} {z : Int} (h : dtx z = s) (hl : (bare s).length ≤ 18) : numOk s = true ∧ numR s = z := by
  subst h
  obtain ⟨h0, h1⟩ := lt_of_short hl
  exact num_back h0 h1
end Go.Proofs.YtejhngkbkcalaaaGreatDoor
