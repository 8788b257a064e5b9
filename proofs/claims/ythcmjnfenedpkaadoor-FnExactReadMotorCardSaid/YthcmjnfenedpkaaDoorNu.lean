/-
  Contracts: a numeral read by the reference.
-/
import Derived.Test.YthcmjnfenedpkaaDoorM1
import Derived.Test.YthcmjnfenedpkaaDoorDec
import Derived.Test.YthcmjnfenedpkaaDoorKX2
namespace Go.Proofs.YthcmjnfenedpkaaDoor
open Go.RowKit
set_option linter.unusedVariables false
set_option linter.unusedSimpArgs false

def nb (s : ByteArray) (j : Nat) : Int := ((s.get! j).toNat : Int)
def nOff (s : ByteArray) : Nat := if 0 < s.size ∧ nb s 0 = 45 then 1 else 0
def nV (s : ByteArray) (o : Nat) : Nat → Int
  | 0 => 0
  | k + 1 => 10 * nV s o k + (nb s (o + k) - 48)
def nBad (s : ByteArray) (o : Nat) : Bool := decide (s.size = o) || decide (18 < s.size - o) || (decide (nb s o = 48) && decide (1 < s.size))
def nAll (s : ByteArray) (o : Nat) : Bool := !any (fun j => !inB (nb s (o + j)) 48 57) (s.size - o)
def numOk (s : ByteArray) : Bool := !nBad s (nOff s) && nAll s (nOff s)
def numV (s : ByteArray) : Int := if nOff s = 1 then -nV s 1 (s.size - 1) else nV s 0 s.size
def numR (s : ByteArray) : Int := if numOk s = true then numV s else 0
theorem nV_bd (s : ByteArray) (o : Nat) : ∀ k, any (fun j => !inB (nb s (o + j)) 48 57) k = false → 0 ≤ nV s o k ∧ nV s o k < 10 ^ k
  | 0, _ => by simp [nV]
  | k + 1, h => by
    have ih := nV_bd s o k (any_false.2 fun j hj => any_false.1 h j (by omega))
    have hk := any_false.1 h k (by omega)
    have hi : inB (nb s (o + k)) 48 57 = true := by simpa using hk
    rw [inB_true] at hi
    rw [nV, Int.pow_succ]
    omega
theorem pow18 {k : Nat} (h : k ≤ 17) : (10 : Int) ^ k ≤ 100000000000000000 := by
  have : k = 0 ∨ k = 1 ∨ k = 2 ∨ k = 3 ∨ k = 4 ∨ k = 5 ∨ k = 6 ∨ k = 7 ∨ k = 8 ∨ k = 9 ∨ k = 10 ∨ k = 11 ∨ k = 12 ∨ k = 13 ∨ k = 14 ∨ k = 15 ∨ k = 16 ∨ k = 17 := by omega
  rcases this with rfl | rfl | rfl | rfl | rfl | rfl | rfl | rfl | rfl | rfl | rfl | rfl | rfl | rfl | rfl | rfl | rfl | rfl <;> decide
theorem pow19 {k : Nat} (h : k ≤ 18) : (10 : Int) ^ k ≤ 1000000000000000000 := by
  rcases Nat.lt_or_ge k 18 with h1 | h1
  · have := pow18 (k := k) (by omega); omega
  · obtain rfl : k = 18 := by omega
    decide

theorem spec_l01Number_0 (s : ByteArray) (w : World) (hs : s.size ≤ 1048576) (h0 : 0 < s.size) (hb : nb s 0 ≠ 45) :
    Calls Tryd.prog 15 #[.string s] w fun e w' => e = .returned (.tuple #[.int .i64 (numR s), .bool (numOk s)]) ∧ Below w.heap.size w w' := by
  have ho : nOff s = 0 := by unfold nOff; rw [if_neg (fun h => hb h.2)]
  have hOk : numOk s = (!nBad s 0 && nAll s 0) := by unfold numOk; rw [ho]
  have hV : numR s = if numOk s = true then nV s 0 (s.size - 0) else 0 := by unfold numR numV; rw [ho]; rfl
  have i0 : (0 : Int) < (s.size : Int) := by omega
  have hg0 : ((s[0]'h0).toNat : Int) = nb s 0 := by rw [get_byte h0]; rfl
  have HB := Lib.hid hb
  cases hbad : nBad s 0
  · rw [hbad] at hOk
    unfold nBad at hbad
    rw [Bool.or_eq_false_iff, Bool.or_eq_false_iff, decide_eq_false_iff_not, decide_eq_false_iff_not] at hbad
    obtain ⟨⟨b1, b2⟩, b3⟩ := hbad
    have hlt : 0 < s.size := by omega
    have hgo : ((s[0]'hlt).toNat : Int) = nb s 0 := by rw [get_byte hlt]; rfl
    have kD := fun z W => spec_l01Digit z W
    have c1 : (s.size : Int) - 0 ≤ 18 := by omega
    have hR := Lib.hid (show nAll s 0 = true → numOk s = true ∧ numR s = nV s 0 (s.size - 0) from fun h => by
      have e : numOk s = true := by rw [hOk, h]; rfl
      exact ⟨e, by rw [hV, if_pos e]⟩)
    have hN := Lib.hid (show nAll s 0 = false → numOk s = false ∧ numR s = 0 from fun h => by
      have e : numOk s = false := by rw [hOk, h]; rfl
      exact ⟨e, by rw [hV, e]; rfl⟩)
    generalize numOk s = OK at *
    generalize numR s = RR at *
    clear hOk hV ho
    have hcase : nb s 0 ≠ 48 ∨ (nb s 0 = 48 ∧ (s.size : Int) ≤ 1) := by
      by_cases h48 : nb s 0 = 48
      · refine .inr ⟨h48, Int.not_lt.1 fun h1 => ?_⟩
        rw [h48, decide_eq_true (show 1 < s.size by omega)] at b3; cases b3
      · exact .inl h48
    clear b3
    rcases hcase with hc | ⟨hc, hc1⟩
    all_goals (try (exfalso; omega))
    all_goals
      go_enter Tryd.func15, Tryd.ntmps15
      go_wp2
      all_goals (try (exfalso; omega))
      go_loop [5, 6] (fun v i => ∃ j : Nat, 0 ≤ j ∧ j ≤ s.size ∧ i = .int .i64 j ∧ v = .int .i64 (nV s 0 (j - 0)) ∧ any (fun j => !inB (nb s (0 + j)) 48 57) (j - 0) = false) (fun _ i => s.size - (intOf i).toNat)
      case atStart => exact ⟨0, by omega, by omega, rfl, rfl, rfl⟩
      case round =>
        obtain ⟨j, hj0, hj1, rfl, rfl, hno⟩ := hrel
        by_cases hjl : j < s.size
        · have hgj : ((s[j]'hjl).toNat : Int) = nb s j := by rw [get_byte hjl]; rfl
          have hbd := nV_bd s 0 (j - 0) hno
          have hp := pow18 (k := j - 0) (by omega)
          have he : 0 + (j - 0) = j := by omega
          have j0 : (0 : Int) ≤ (j : Int) := by omega
          have j1 : (j : Int) < (s.size : Int) := by omega
          have HS := Lib.hid (show nV s 0 (j + 1 - 0) = 10 * nV s 0 (j - 0) + (nb s j - 48) by rw [show j + 1 - 0 = (j - 0) + 1 by omega, nV, he])
          have kz := fun W => kD (nb s j) W
          have v0 : 0 ≤ nV s 0 (j - 0) := hbd.1
          have v1 : nV s 0 (j - 0) < 100000000000000000 := Int.lt_of_lt_of_le hbd.2 hp
          clear hbd hp kD
          cases hd : inB (nb s j) 48 57
          · have HF := Lib.hid (hN.out (by
              unfold nAll
              rw [Bool.not_eq_false', any_true]
              exact ⟨j - 0, by omega, by show (!inB (nb s (0 + (j - 0))) 48 57) = true; rw [he, hd]; rfl⟩))
            rw [hd] at kz
            clear hno hd HS
            generalize nV s 0 (j - 0) = X at *
            generalize nb s j = z at *
            go_wp2_with (go_at_call 20; (with_reducible refine (kz _).mono ?_); rintro e w' ⟨rfl, rfl⟩)
            go_returns
            exact ⟨by rw [HF.out.1, HF.out.2]; rfl, Below.refl _ _⟩
          · have hdd := hd
            rw [inB_true] at hdd
            obtain ⟨d0, d1⟩ := hdd
            have HA := Lib.hid (show any (fun j => !inB (nb s (0 + j)) 48 57) (j + 1 - 0) = false by
              rw [show j + 1 - 0 = (j - 0) + 1 by omega]
              exact any_step hno (by show (!inB (nb s (0 + (j - 0))) 48 57) = false; rw [he, hd]; rfl))
            rw [hd] at kz
            clear hno hd
            generalize nV s 0 (j - 0) = X at *
            generalize nb s j = z at *
            go_wp2_with (go_at_call 20; (with_reducible refine (kz _).mono ?_); rintro e w' ⟨rfl, rfl⟩)
            go_round
            case rel => exact ⟨j + 1, by omega, by omega, by go_num, by rw [HS.out], HA.out⟩
            case measure => simp [intOf]; omega
        · obtain rfl : j = s.size := by omega
          have HF := Lib.hid (hR.out (by unfold nAll; rw [hno]; rfl))
          have hbd := nV_bd s 0 (s.size - 0) hno
          have hp := pow19 (k := s.size - 0) (by omega)
          have v0 : 0 ≤ nV s 0 (s.size - 0) := hbd.1
          have v1 : nV s 0 (s.size - 0) < 1000000000000000000 := Int.lt_of_lt_of_le hbd.2 hp
          clear hno hbd hp
          generalize nV s 0 (s.size - 0) = X at *
          have hw : IntKind.i64.wrap (-X) = -X := IntWalk.i64_in _ (by omega)
          go_wp2
          go_returns
          exact ⟨by rw [HF.out.1, HF.out.2]; rfl, Below.refl _ _⟩
  · have hno : numOk s = false := by rw [hOk, hbad]; rfl
    have hz : numR s = 0 := by rw [hV, hno]; rfl
    rw [hno, hz]
    unfold nBad at hbad
    rw [Bool.or_eq_true, Bool.or_eq_true, Bool.and_eq_true, decide_eq_true_eq, decide_eq_true_eq, decide_eq_true_eq, decide_eq_true_eq] at hbad
    clear hno hz hOk hV ho
    by_cases hlt : 0 < s.size
    · have hgo : ((s[0]'hlt).toNat : Int) = nb s 0 := by rw [get_byte hlt]; rfl
      go_enter Tryd.func15, Tryd.ntmps15
      go_wp2
      all_goals (try (exfalso; omega))
      all_goals
        go_returns
        exact ⟨rfl, Below.refl _ _⟩
    · go_enter Tryd.func15, Tryd.ntmps15
      go_wp2
      all_goals (try (exfalso; omega))
      all_goals
        go_returns
        exact ⟨rfl, Below.refl _ _⟩
theorem spec_l01Number_1 (s : ByteArray) (w : World) (hs : s.size ≤ 1048576) (h0 : 0 < s.size) (hb : nb s 0 = 45) :
    Calls Tryd.prog 15 #[.string s] w fun e w' => e = .returned (.tuple #[.int .i64 (numR s), .bool (numOk s)]) ∧ Below w.heap.size w w' := by
  have ho : nOff s = 1 := by unfold nOff; rw [if_pos ⟨h0, hb⟩]
  have hOk : numOk s = (!nBad s 1 && nAll s 1) := by unfold numOk; rw [ho]
  have hV : numR s = if numOk s = true then -nV s 1 (s.size - 1) else 0 := by unfold numR numV; rw [ho]; rfl
  have i0 : (0 : Int) < (s.size : Int) := by omega
  have hg0 : ((s[0]'h0).toNat : Int) = nb s 0 := by rw [get_byte h0]; rfl
  have HB := Lib.hid hb
  cases hbad : nBad s 1
  · rw [hbad] at hOk
    unfold nBad at hbad
    rw [Bool.or_eq_false_iff, Bool.or_eq_false_iff, decide_eq_false_iff_not, decide_eq_false_iff_not] at hbad
    obtain ⟨⟨b1, b2⟩, b3⟩ := hbad
    have hlt : 1 < s.size := by omega
    have hgo : ((s[1]'hlt).toNat : Int) = nb s 1 := by rw [get_byte hlt]; rfl
    have kD := fun z W => spec_l01Digit z W
    have c1 : (s.size : Int) - 1 ≤ 18 := by omega
    have hR := Lib.hid (show nAll s 1 = true → numOk s = true ∧ numR s = -nV s 1 (s.size - 1) from fun h => by
      have e : numOk s = true := by rw [hOk, h]; rfl
      exact ⟨e, by rw [hV, if_pos e]⟩)
    have hN := Lib.hid (show nAll s 1 = false → numOk s = false ∧ numR s = 0 from fun h => by
      have e : numOk s = false := by rw [hOk, h]; rfl
      exact ⟨e, by rw [hV, e]; rfl⟩)
    generalize numOk s = OK at *
    generalize numR s = RR at *
    clear hOk hV ho
    have hcase : nb s 1 ≠ 48 ∨ (nb s 1 = 48 ∧ (s.size : Int) ≤ 1) := by
      by_cases h48 : nb s 1 = 48
      · refine .inr ⟨h48, Int.not_lt.1 fun h1 => ?_⟩
        rw [h48, decide_eq_true (show 1 < s.size by omega)] at b3; cases b3
      · exact .inl h48
    clear b3
    rcases hcase with hc | ⟨hc, hc1⟩
    all_goals (try (exfalso; omega))
    all_goals
      go_enter Tryd.func15, Tryd.ntmps15
      go_wp2
      all_goals (try (exfalso; omega))
      go_loop [5, 6] (fun v i => ∃ j : Nat, 1 ≤ j ∧ j ≤ s.size ∧ i = .int .i64 j ∧ v = .int .i64 (nV s 1 (j - 1)) ∧ any (fun j => !inB (nb s (1 + j)) 48 57) (j - 1) = false) (fun _ i => s.size - (intOf i).toNat)
      case atStart => exact ⟨1, by omega, by omega, rfl, rfl, rfl⟩
      case round =>
        obtain ⟨j, hj0, hj1, rfl, rfl, hno⟩ := hrel
        by_cases hjl : j < s.size
        · have hgj : ((s[j]'hjl).toNat : Int) = nb s j := by rw [get_byte hjl]; rfl
          have hbd := nV_bd s 1 (j - 1) hno
          have hp := pow18 (k := j - 1) (by omega)
          have he : 1 + (j - 1) = j := by omega
          have j0 : (0 : Int) ≤ (j : Int) := by omega
          have j1 : (j : Int) < (s.size : Int) := by omega
          have HS := Lib.hid (show nV s 1 (j + 1 - 1) = 10 * nV s 1 (j - 1) + (nb s j - 48) by rw [show j + 1 - 1 = (j - 1) + 1 by omega, nV, he])
          have kz := fun W => kD (nb s j) W
          have v0 : 0 ≤ nV s 1 (j - 1) := hbd.1
          have v1 : nV s 1 (j - 1) < 100000000000000000 := Int.lt_of_lt_of_le hbd.2 hp
          clear hbd hp kD
          cases hd : inB (nb s j) 48 57
          · have HF := Lib.hid (hN.out (by
              unfold nAll
              rw [Bool.not_eq_false', any_true]
              exact ⟨j - 1, by omega, by show (!inB (nb s (1 + (j - 1))) 48 57) = true; rw [he, hd]; rfl⟩))
            rw [hd] at kz
            clear hno hd HS
            generalize nV s 1 (j - 1) = X at *
            generalize nb s j = z at *
            go_wp2_with (go_at_call 20; (with_reducible refine (kz _).mono ?_); rintro e w' ⟨rfl, rfl⟩)
            go_returns
            exact ⟨by rw [HF.out.1, HF.out.2]; rfl, Below.refl _ _⟩
          · have hdd := hd
            rw [inB_true] at hdd
            obtain ⟨d0, d1⟩ := hdd
            have HA := Lib.hid (show any (fun j => !inB (nb s (1 + j)) 48 57) (j + 1 - 1) = false by
              rw [show j + 1 - 1 = (j - 1) + 1 by omega]
              exact any_step hno (by show (!inB (nb s (1 + (j - 1))) 48 57) = false; rw [he, hd]; rfl))
            rw [hd] at kz
            clear hno hd
            generalize nV s 1 (j - 1) = X at *
            generalize nb s j = z at *
            go_wp2_with (go_at_call 20; (with_reducible refine (kz _).mono ?_); rintro e w' ⟨rfl, rfl⟩)
            go_round
            case rel => exact ⟨j + 1, by omega, by omega, by go_num, by rw [HS.out], HA.out⟩
            case measure => simp [intOf]; omega
        · obtain rfl : j = s.size := by omega
          have HF := Lib.hid (hR.out (by unfold nAll; rw [hno]; rfl))
          have hbd := nV_bd s 1 (s.size - 1) hno
          have hp := pow19 (k := s.size - 1) (by omega)
          have v0 : 0 ≤ nV s 1 (s.size - 1) := hbd.1
          have v1 : nV s 1 (s.size - 1) < 1000000000000000000 := Int.lt_of_lt_of_le hbd.2 hp
          clear hno hbd hp
          generalize nV s 1 (s.size - 1) = X at *
          have hw : IntKind.i64.wrap (-X) = -X := IntWalk.i64_in _ (by omega)
          go_wp2
          go_returns
          exact ⟨by rw [HF.out.1, HF.out.2]; rfl, Below.refl _ _⟩
  · have hno : numOk s = false := by rw [hOk, hbad]; rfl
    have hz : numR s = 0 := by rw [hV, hno]; rfl
    rw [hno, hz]
    unfold nBad at hbad
    rw [Bool.or_eq_true, Bool.or_eq_true, Bool.and_eq_true, decide_eq_true_eq, decide_eq_true_eq, decide_eq_true_eq, decide_eq_true_eq] at hbad
    clear hno hz hOk hV ho
    by_cases hlt : 1 < s.size
    · have hgo : ((s[1]'hlt).toNat : Int) = nb s 1 := by rw [get_byte hlt]; rfl
      go_enter Tryd.func15, Tryd.ntmps15
      go_wp2
      all_goals (try (exfalso; omega))
      all_goals
        go_returns
        exact ⟨rfl, Below.refl _ _⟩
    · go_enter Tryd.func15, Tryd.ntmps15
      go_wp2
      all_goals (try (exfalso; omega))
      all_goals
        go_returns
        exact ⟨rfl, Below.refl _ _⟩
theorem spec_l01Number (s : ByteArray) (w : World) (hs : s.size ≤ 1048576) :
    Calls Tryd.prog 15 #[.string s] w fun e w' => e = .returned (.tuple #[.int .i64 (numR s), .bool (numOk s)]) ∧ Below w.heap.size w w' := by
  rcases Nat.eq_zero_or_pos s.size with h0 | h0
  · have ho : nOff s = 0 := by unfold nOff; rw [if_neg (by omega)]
    have e : numOk s = false := by unfold numOk nBad; rw [ho, decide_eq_true h0]; rfl
    have e2 : numR s = 0 := by unfold numR; rw [e]; rfl
    rw [e, e2]
    clear e e2 ho
    go_enter Tryd.func15, Tryd.ntmps15
    go_wp2
    all_goals (try (exfalso; omega))
    all_goals
      go_returns
      exact ⟨rfl, Below.refl _ _⟩
  · by_cases hb : nb s 0 = 45
    · exact spec_l01Number_1 s w hs h0 hb
    · exact spec_l01Number_0 s w hs h0 hb

end Go.Proofs.YthcmjnfenedpkaaDoor
