/-
  Contracts: the text of a list of numbers.
-/
import Derived.Test.YtejhngkbkcalaaaGreatDoorDci
import Derived.Test.YtejhngkbkcalaaaGreatDoorSh3
import Derived.Test.YtejhngkbkcalaaaGreatDoorKS
import Derived.Test.YtejhngkbkcalaaaGreatDoorM1
namespace Go.Proofs.YtejhngkbkcalaaaGreatDoor
open Go.RowKit
open Go.Lib (itoa decDigits)
set_option linter.unusedVariables false
set_option linter.unusedSimpArgs false

def accL (Z : Nat → Int) : Nat → List UInt8
  | 0 => []
  | k + 1 => (if 0 < k then accL Z k ++ [44] else accL Z k) ++ itoa (Z k)
def listL (Z : Nat → Int) (n : Nat) : List UInt8 := if n = 0 then [45] else accL Z n
def listTx (Z : Nat → Int) (n : Nat) : ByteArray := ⟨(listL Z n).toArray⟩
theorem accL_len {Z : Nat → Int} {n : Nat} (h : ∀ j, j < n → -9223372036854775808 ≤ Z j ∧ Z j ≤ 9223372036854775807) : ∀ k, k ≤ n → (accL Z k).length ≤ 22 * k
  | 0, _ => by simp [accL]
  | k + 1, hk => by
    have ih := accL_len h k (by omega)
    have hl := Go.Lib.itoa_length_le (Z k) (h k (by omega)).1 (h k (by omega)).2
    unfold accL
    split <;> simp only [List.length_append, List.length_cons, List.length_nil] <;> omega
theorem sperse_snoc {α : Type} (s a : α) : ∀ (x : α) (l : List α), (x :: l ++ [a]).intersperse s = (x :: l).intersperse s ++ [s, a]
  | x, [] => rfl
  | x, y :: l => by
    have ih := sperse_snoc s a y l
    simp only [List.cons_append] at ih ⊢
    show x :: s :: (y :: (l ++ [a])).intersperse s = x :: s :: (y :: l).intersperse s ++ [s, a]
    rw [ih]; rfl
theorem cat_snoc (s a : List UInt8) {l : List (List UInt8)} (h : l ≠ []) : s.intercalate (l ++ [a]) = s.intercalate l ++ s ++ a := by
  obtain ⟨x, l, rfl⟩ := List.exists_cons_of_ne_nil h
  unfold List.intercalate
  rw [sperse_snoc, List.flatten_append]
  simp
theorem join_acc (Z : Nat → Int) : ∀ k, Go.Lib.join ((List.range (k + 1)).map fun j => itoa (Z j)) [44] = accL Z (k + 1)
  | 0 => by simp [Go.Lib.join, accL, List.intercalate, List.range_succ]
  | k + 1 => by
    have ih := join_acc Z k
    unfold Go.Lib.join at ih ⊢
    rw [List.range_succ, List.map_append, List.map_cons, List.map_nil, cat_snoc _ _ (by simp), ih]
    show _ = (if 0 < k + 1 then accL Z (k + 1) ++ [44] else accL Z (k + 1)) ++ itoa (Z (k + 1))
    rw [if_pos (by omega)]

theorem impl_isValue (z : Int) (w : World) : Calls Tryz.prog 49 #[.int .i64 z] w fun e w' => e = .returned (.bool (inB z (-1000000000000) 1000000000000)) ∧ w = w' := by
  go_enter Tryz.func49, Tryz.ntmps49
  go_wp2_with (go_at_call 42; go_call impl_within as e w' ⟨rfl, rfl⟩)
  go_returns
  exact ⟨rfl, rfl⟩
theorem impl_ListText_1 (z : Int) (w : World) : Calls Tryz.prog 48 #[.int .i64 z] w fun e w' => e = .returned (.bool (!inB z (-1000000000000) 1000000000000)) ∧ w = w' := by
  go_enter Tryz.func48, Tryz.ntmps48
  go_wp2_with (go_at_call 49; go_call impl_isValue as e w' ⟨rfl, rfl⟩)
  go_returns
  exact ⟨rfl, rfl⟩
theorem impl_ListText_1_index (a : Option Addr) (n c : Nat) (Z : Nat → Int) (w : World) (hz : IntsAt w a n Z) (hn : n ≤ 1048576) :
    Calls Tryz.prog 53 #[.slice a n c, .func (.func 48) #[] #[]] w fun e w' => e = .returned (.int .i64 (idx (fun j => !inB (Z j) (-1000000000000) 1000000000000) n)) ∧ w = w' := by
  have hq : ∀ j, (fun j => !inB (Z j) (-1000000000000) 1000000000000) j = !inB (Z j) (-1000000000000) 1000000000000 := fun _ => rfl
  generalize (fun j => !inB (Z j) (-1000000000000) 1000000000000) = q at *
  have hF := fun j W => impl_ListText_1 (Z j) W
  go_enter Tryz.func53, Tryz.ntmps53
  go_wp2
  go_loop [8] (fun i => ∃ k : Nat, k ≤ n ∧ i = .int .i64 k ∧ fst q k = k) (fun i => n - (intOf i).toNat)
  case atStart => exact ⟨0, by omega, rfl, rfl⟩
  case round =>
    obtain ⟨k, hk, rfl, hr⟩ := hrel
    by_cases hlt : k < n
    · obtain ⟨b, o, rfl, hb, hc⟩ := hz (by omega)
      have ck := hc k hlt
      have hk1 := hq k
      have cF := hF k
      rw [← hk1] at cF
      clear hk1 hq hF hc
      cases hqk : q k
      · rw [hqk] at cF
        have H := Lib.hid (fst_miss hr hqk)
        clear hr hqk
        go_wp2_with (go_at_call 48; (with_reducible refine (cF _).mono ?_); rintro e w' ⟨rfl, rfl⟩)
        go_round
        case rel => exact ⟨k + 1, by omega, by go_num, H.out⟩
        case measure => simp [intOf]; omega
      · rw [hqk] at cF
        have hfin : idx q n = k := by unfold idx; rw [fst_hit hr hqk hlt, if_pos hlt]
        have H := Lib.hid hfin
        clear hr hqk hfin
        go_wp2_with (go_at_call 48; (with_reducible refine (cF _).mono ?_); rintro e w' ⟨rfl, rfl⟩)
        go_ret
        exact ⟨by rw [H.out]; rfl, rfl⟩
    · obtain rfl : k = n := by omega
      have hfin : idx q k = -1 := by unfold idx; rw [hr, if_neg (by omega)]
      have H := Lib.hid hfin
      clear hr hfin
      go_wp2
      go_ret
      exact ⟨by rw [H.out]; rfl, rfl⟩
theorem impl_ListText_1_contains (a : Option Addr) (n c : Nat) (Z : Nat → Int) (w : World) (hz : IntsAt w a n Z) (hn : n ≤ 1048576) :
    Calls Tryz.prog 45 #[.slice a n c, .func (.func 48) #[] #[]] w fun e w' => e = .returned (.bool (any (fun j => !inB (Z j) (-1000000000000) 1000000000000) n)) ∧ w = w' := by
  have hi := fun W h => impl_ListText_1_index a n c Z W h hn
  rw [← idx_ge]
  generalize idx (fun j => !inB (Z j) (-1000000000000) 1000000000000) n = I at *
  go_enter Tryz.func45, Tryz.ntmps45
  go_wp2_with (go_at_call 53; (with_reducible refine (hi _ hz).mono ?_); rintro e w' ⟨rfl, rfl⟩)
  go_ret
  exact ⟨rfl, rfl⟩


end Go.Proofs.YtejhngkbkcalaaaGreatDoor
