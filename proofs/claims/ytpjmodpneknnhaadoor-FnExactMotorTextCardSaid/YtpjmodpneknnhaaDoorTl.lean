/-
  Contracts: the text of a list of numbers.
-/
import Derived.Test.YtpjmodpneknnhaaDoorDci
import Derived.Test.YtpjmodpneknnhaaDoorSh3
import Derived.Test.YtpjmodpneknnhaaDoorKS
import Derived.Test.YtpjmodpneknnhaaDoorKA
namespace Go.Proofs.YtpjmodpneknnhaaDoor
open Go.RowKit
open Go.Lib (itoa decDigits)
set_option linter.unusedVariables false
set_option linter.unusedSimpArgs false

def accL (Z : Nat → Int) : Nat → List UInt8
  | 0 => []
  | k + 1 => (if 0 < k then accL Z k ++ [44] else accL Z k) ++ itoa (Z k)
def listL (Z : Nat → Int) (n : Nat) : List UInt8 := if n = 0 then [45] else accL Z n
def listTx (Z : Nat → Int) (n : Nat) : ByteArray := ⟨(listL Z n).toArray⟩
theorem accL_len {Z : Nat → Int} {n : Nat} (h : ∀ j, j < n → -9223372036854775808 ≤ Z j ∧ Z j ≤ 9223372036854775807) : ∀ k, k ≤ n → (accL Z k).length ≤ 22 * k
  | 0, _ => by simp [accL]
  | k + 1, hk => by
    have ih := accL_len h k (by omega)
    have hl := Go.Lib.itoa_length_le (Z k) (h k (by omega)).1 (h k (by omega)).2
    unfold accL
    split <;> simp only [List.length_append, List.length_cons, List.length_nil] <;> omega
theorem sperse_snoc {α : Type} (s a : α) : ∀ (x : α) (l : List α), (x :: l ++ [a]).intersperse s = (x :: l).intersperse s ++ [s, a]
  | x, [] => rfl
  | x, y :: l => by
    have ih := sperse_snoc s a y l
    simp only [List.cons_append] at ih ⊢
    show x :: s :: (y :: (l ++ [a])).intersperse s = x :: s :: (y :: l).intersperse s ++ [s, a]
    rw [ih]; rfl
theorem cat_snoc (s a : List UInt8) {l : List (List UInt8)} (h : l ≠ []) : s.intercalate (l ++ [a]) = s.intercalate l ++ s ++ a := by
  obtain ⟨x, l, rfl⟩ := List.exists_cons_of_ne_nil h
  unfold List.intercalate
  rw [sperse_snoc, List.flatten_append]
  simp
theorem join_acc (Z : Nat → Int) : ∀ k, Go.Lib.join ((List.range (k + 1)).map fun j => itoa (Z j)) [44] = accL Z (k + 1)
  | 0 => by simp [Go.Lib.join, accL, List.intercalate, List.range_succ]
  | k + 1 => by
    have ih := join_acc Z k
    unfold Go.Lib.join at ih ⊢
    rw [List.range_succ, List.map_append, List.map_cons, List.map_nil, cat_snoc _ _ (by simp), ih]
    show _ = (if 0 < k + 1 then accL Z (k + 1) ++ [44] else accL Z (k + 1)) ++ itoa (Z (k + 1))
    rw [if_pos (by omega)]

set_option maxHeartbeats 1000000 in
theorem spec_l01List (a : Option Addr) (n c : Nat) (Z : Nat → Int) (w : World) (hz : IntsAt w a n Z) (hn : n ≤ 64) (hb : ∀ j, j < n → -9223372036854775808 ≤ Z j ∧ Z j ≤ 9223372036854775807) :
    Calls Tryd.prog 73 #[.slice a n c] w fun e w' => e = .returned (.string (listTx Z n)) ∧ Below w.heap.size w w' := by
  by_cases h0 : n = 0
  · subst h0
    rw [show listTx Z 0 = ⟨#[45]⟩ from rfl]
    go_enter Tryd.func73, Tryd.ntmps73
    go_wp2
    go_returns
    exact ⟨rfl, Below.refl _ _⟩
  · have hn0 : ((n : Int) == 0) = false := beq_eq_false_iff_ne.2 (by omega)
    have HL := Lib.hid (accL_len hb)
    have HR := Lib.hid (show listTx Z n = ⟨(accL Z n).toArray⟩ by unfold listTx listL; rw [if_neg h0])
    obtain ⟨R, hR⟩ : ∃ R, R = listTx Z n := ⟨_, rfl⟩
    rw [← hR]
    have HR2 := Lib.hid (hR.trans HR.out)
    clear hR
    go_enter Tryd.func73, Tryd.ntmps73
    go_wp2
    go_loopw [3, 4] (fun s i wr => ∃ k : Nat, k ≤ n ∧ i = .int .i64 k ∧ s = .string ⟨(accL Z k).toArray⟩ ∧ Below w.heap.size w wr) (fun _ i _ => n - (intOf i).toNat)
    case atStart => exact ⟨0, by omega, rfl, rfl, Below.refl _ _⟩
    case round =>
      obtain ⟨k, hk, rfl, rfl, hB⟩ := hrel
      by_cases hlt : k < n
      · obtain ⟨b, o, rfl, hbb, hc⟩ := hz (by omega)
        have ck := (hB.cell (p := ⟨b, o + k, none⟩) hbb).trans (hc k hlt)
        have hb1 : b < wr.heap.size := Nat.lt_of_lt_of_le hbb hB.size
        have kd := fun W => spec_l01Dec_t (Z k) W (hb k hlt).1 (hb k hlt).2
        have hds := dtx_size (hb k hlt).1 (hb k hlt).2
        have hle := HL.out k (by omega)
        have k0 : (0 : Int) ≤ (k : Int) := by omega
        have k1 : (k : Int) < (n : Int) := by omega
        clear hc
        rcases Nat.eq_zero_or_pos k with hk0 | hk0
        · have hs1 : (⟨(accL Z k).toArray⟩ : ByteArray).size = (accL Z k).length := by simp [ByteArray.size]
          have a1 := str_add (P := Tryd.prog) (a := ⟨(accL Z k).toArray⟩) (b := dtx (Z k)) (by rw [hs1]; show _ + _ ≤ _; omega)
          have HE := Lib.hid (show (⟨(accL Z k).toArray⟩ : ByteArray) ++ dtx (Z k) = ⟨(accL Z (k + 1)).toArray⟩ by
            unfold dtx
            rw [ByteArray.mk_append_mk]
            show _ = (⟨((if 0 < k then accL Z k ++ [44] else accL Z k) ++ itoa (Z k)).toArray⟩ : ByteArray)
            rw [if_neg (by omega)])
          have k2 : ¬ (0 < k) := by omega
          have HK := Lib.hid hk0
          clear hs1 hk0
          generalize (⟨(accL Z k).toArray⟩ : ByteArray) = A at *
          generalize A ++ dtx (Z k) = A2 at *
          generalize dtx (Z k) = T at *
          go_wp2_with (go_at_call 68; (with_reducible refine (kd _).mono ?_); rintro e w' ⟨rfl, hb⟩; have hB2 : Below w.heap.size w w' := hB.trans (hb.mono hB.size))
          go_roundw
          case rel => exact ⟨k + 1, by omega, by go_num, by rw [HE.out], hB2⟩
          case measure => simp [intOf]; omega
        · have hs1 : (⟨(accL Z k).toArray⟩ : ByteArray).size = (accL Z k).length := by simp [ByteArray.size]
          have a1 := str_add (P := Tryd.prog) (a := ⟨(accL Z k).toArray⟩) (b := ⟨#[44]⟩) (by rw [hs1]; show _ + 1 ≤ _; omega)
          have a2 := str_add (P := Tryd.prog) (a := ⟨(accL Z k).toArray⟩ ++ ⟨#[44]⟩) (b := dtx (Z k)) (by rw [ByteArray.size_append, hs1]; show _ + 1 + _ ≤ _; omega)
          have HE := Lib.hid (show (⟨(accL Z k).toArray⟩ : ByteArray) ++ ⟨#[44]⟩ ++ dtx (Z k) = ⟨(accL Z (k + 1)).toArray⟩ by
            unfold dtx
            rw [show (⟨#[44]⟩ : ByteArray) = ⟨([44] : List UInt8).toArray⟩ from rfl, ByteArray.mk_append_mk, ByteArray.mk_append_mk]
            show _ = (⟨((if 0 < k then accL Z k ++ [44] else accL Z k) ++ itoa (Z k)).toArray⟩ : ByteArray)
            rw [if_pos hk0])
          have k2 : decide ((0 : Int) < (k : Int)) = true := decide_eq_true (by omega)
          clear hs1
          generalize (⟨(accL Z k).toArray⟩ : ByteArray) = A at *
          generalize A ++ ⟨#[44]⟩ = A1 at *
          generalize A1 ++ dtx (Z k) = A2 at *
          generalize dtx (Z k) = T at *
          go_wp2_with (go_at_call 68; (with_reducible refine (kd _).mono ?_); rintro e w' ⟨rfl, hb⟩; have hB2 : Below w.heap.size w w' := hB.trans (hb.mono hB.size))
          go_roundw
          case rel => exact ⟨k + 1, by omega, by go_num, by rw [HE.out], hB2⟩
          case measure => simp [intOf]; omega
      · obtain rfl : k = n := by omega
        rw [← HR2.out]
        go_wp2
        go_returns
        exact ⟨rfl, hB⟩

theorem impl_isValue (z : Int) (w : World) : Calls Tryd.prog 76 #[.int .i64 z] w fun e w' => e = .returned (.bool (inB z (-1000000000000) 1000000000000)) ∧ w = w' := by
  go_enter Tryd.func76, Tryd.ntmps76
  go_wp2_with (go_at_call 50; go_call impl_within as e w' ⟨rfl, rfl⟩)
  go_returns
  exact ⟨rfl, rfl⟩
theorem impl_ListText_1 (z : Int) (w : World) : Calls Tryd.prog 75 #[.int .i64 z] w fun e w' => e = .returned (.bool (!inB z (-1000000000000) 1000000000000)) ∧ w = w' := by
  go_enter Tryd.func75, Tryd.ntmps75
  go_wp2_with (go_at_call 76; go_call impl_isValue as e w' ⟨rfl, rfl⟩)
  go_returns
  exact ⟨rfl, rfl⟩
theorem impl_ListText_1_index (a : Option Addr) (n c : Nat) (Z : Nat → Int) (w : World) (hz : IntsAt w a n Z) (hn : n ≤ 1048576) :
    Calls Tryd.prog 92 #[.slice a n c, .func (.func 75) #[] #[]] w fun e w' => e = .returned (.int .i64 (idx (fun j => !inB (Z j) (-1000000000000) 1000000000000) n)) ∧ w = w' := by
  have hq : ∀ j, (fun j => !inB (Z j) (-1000000000000) 1000000000000) j = !inB (Z j) (-1000000000000) 1000000000000 := fun _ => rfl
  generalize (fun j => !inB (Z j) (-1000000000000) 1000000000000) = q at *
  have hF := fun j W => impl_ListText_1 (Z j) W
  go_enter Tryd.func92, Tryd.ntmps92
  go_wp2
  go_loop [8] (fun i => ∃ k : Nat, k ≤ n ∧ i = .int .i64 k ∧ fst q k = k) (fun i => n - (intOf i).toNat)
  case atStart => exact ⟨0, by omega, rfl, rfl⟩
  case round =>
    obtain ⟨k, hk, rfl, hr⟩ := hrel
    by_cases hlt : k < n
    · obtain ⟨b, o, rfl, hb, hc⟩ := hz (by omega)
      have ck := hc k hlt
      have hk1 := hq k
      have cF := hF k
      rw [← hk1] at cF
      clear hk1 hq hF hc
      cases hqk : q k
      · rw [hqk] at cF
        have H := Lib.hid (fst_miss hr hqk)
        clear hr hqk
        go_wp2_with (go_at_call 75; (with_reducible refine (cF _).mono ?_); rintro e w' ⟨rfl, rfl⟩)
        go_round
        case rel => exact ⟨k + 1, by omega, by go_num, H.out⟩
        case measure => simp [intOf]; omega
      · rw [hqk] at cF
        have hfin : idx q n = k := by unfold idx; rw [fst_hit hr hqk hlt, if_pos hlt]
        have H := Lib.hid hfin
        clear hr hqk hfin
        go_wp2_with (go_at_call 75; (with_reducible refine (cF _).mono ?_); rintro e w' ⟨rfl, rfl⟩)
        go_ret
        exact ⟨by rw [H.out]; rfl, rfl⟩
    · obtain rfl : k = n := by omega
      have hfin : idx q k = -1 := by unfold idx; rw [hr, if_neg (by omega)]
      have H := Lib.hid hfin
      clear hr hfin
      go_wp2
      go_ret
      exact ⟨by rw [H.out]; rfl, rfl⟩
theorem impl_ListText_1_contains (a : Option Addr) (n c : Nat) (Z : Nat → Int) (w : World) (hz : IntsAt w a n Z) (hn : n ≤ 1048576) :
    Calls Tryd.prog 74 #[.slice a n c, .func (.func 75) #[] #[]] w fun e w' => e = .returned (.bool (any (fun j => !inB (Z j) (-1000000000000) 1000000000000) n)) ∧ w = w' := by
  have hi := fun W h => impl_ListText_1_index a n c Z W h hn
  rw [← idx_ge]
  generalize idx (fun j => !inB (Z j) (-1000000000000) 1000000000000) n = I at *
  go_enter Tryd.func74, Tryd.ntmps74
  go_wp2_with (go_at_call 92; (with_reducible refine (hi _ hz).mono ?_); rintro e w' ⟨rfl, rfl⟩)
  go_ret
  exact ⟨rfl, rfl⟩


end Go.Proofs.YtpjmodpneknnhaaDoor
