/-
  Contracts: whether cars may leave.
-/
import Derived.Test.YtdhjnpjemaofoaaDoorKR
import Derived.Test.YtdhjnpjemaofoaaDoorKC
namespace Go.Proofs.YtdhjnpjemaofoaaDoor
open Go.RowKit
set_option linter.unusedVariables false
set_option linter.unusedSimpArgs false

def badDoor (p k r : Int) : Bool := !validDoor p k r || (p != 0)
def mayV (P K R : Nat → Int) (n : Nat) (ready : Int) : Bool := decide (0 < n) && (ready == 1) && !any (fun j => badDoor (P j) (K j) (R j)) n

theorem impl_MayLeave_1 (p k r : Int) (w : World) : Calls Tryd.prog 42 #[.agg #[.int .i64 p, .int .i64 k, .int .i64 r]] w fun e w' => e = .returned (.bool (badDoor p k r)) ∧ Below w.heap.size w w' := by
  have kv := fun W => impl_ValidDoor p k r W
  unfold badDoor
  cases h : validDoor p k r
  · rw [h] at kv
    go_enter Tryd.func42, Tryd.ntmps42
    go_wp2_with (go_at_call 38; (with_reducible refine (kv _).mono ?_); rintro e w' ⟨rfl, hb⟩; obtain ⟨hc, hf⟩ := bcell hb; have hz : w.heap.size < w'.heap.size := (by have := hb.size; (try simp at this); omega); have hB : Below w.heap.size w w' := Below.trans (by go_grown) (hb.mono (by go_size)))
    go_returns
    exact ⟨rfl, by go_grown⟩
  · rw [h] at kv
    go_enter Tryd.func42, Tryd.ntmps42
    go_wp2_with (go_at_call 38; (with_reducible refine (kv _).mono ?_); rintro e w' ⟨rfl, hb⟩; obtain ⟨hc, hf⟩ := bcell hb; have hz : w.heap.size < w'.heap.size := (by have := hb.size; (try simp at this); omega); have hB : Below w.heap.size w w' := Below.trans (by go_grown) (hb.mono (by go_size)))
    go_returns
    exact ⟨rfl, by go_grown⟩
theorem impl_MayLeave_1_index (a : Option Addr) (n c : Nat) (P K R : Nat → Int) (w : World) (hz : DoorsAt w a n P K R) (hn : n ≤ 1048576) :
    Calls Tryd.prog 68 #[.slice a n c, .func (.func 42) #[] #[]] w fun e w' => e = .returned (.int .i64 (idx (fun j => badDoor (P j) (K j) (R j)) n)) ∧ Below w.heap.size w w' := by
  have hF := fun j W => impl_MayLeave_1 (P j) (K j) (R j) W
  have hq : ∀ j, (fun j => badDoor (P j) (K j) (R j)) j = badDoor (P j) (K j) (R j) := fun _ => rfl
  generalize (fun j => badDoor (P j) (K j) (R j)) = q at *
  have HQ := Lib.hid hq
  clear hq
  go_enter Tryd.func68, Tryd.ntmps68
  go_wp2
  go_loopw [8] (fun i wr => ∃ k : Nat, k ≤ n ∧ i = .int .i64 k ∧ fst q k = k ∧ Below w.heap.size w wr) (fun i _ => n - (intOf i).toNat)
  case atStart => exact ⟨0, by omega, rfl, rfl, Below.refl _ _⟩
  case round =>
    obtain ⟨k, hk, rfl, hr, hB⟩ := hrel
    have hq := hB.size
    by_cases hlt : k < n
    · obtain ⟨b, o, rfl, hb, hc⟩ := hz (by omega)
      obtain ⟨c0, c1, c2⟩ := hc k hlt
      replace c0 := (hB.cell (p := ⟨b, o + k * 3, none⟩) hb).trans c0
      replace c1 := (hB.cell (p := ⟨b, o + k * 3 + 1, none⟩) hb).trans c1
      replace c2 := (hB.cell (p := ⟨b, o + k * 3 + 2, none⟩) hb).trans c2
      have cF := hF k
      rw [← HQ.out k] at cF
      clear hF hc
      cases hqk : q k
      · rw [hqk] at cF
        have H := Lib.hid (fst_miss hr hqk)
        clear hr hqk
        go_wp2_with (go_at_call 42; (with_reducible refine (cF _).mono ?_); rintro e w1 ⟨rfl, hb'⟩; replace hB := hB.trans (hb'.mono hq); clear hb')
        go_roundw
        case rel => exact ⟨k + 1, by omega, by go_num, H.out, hB⟩
        case measure => simp [intOf]; omega
      · rw [hqk] at cF
        have hfin : idx q n = k := by unfold idx; rw [fst_hit hr hqk hlt, if_pos hlt]
        have H := Lib.hid hfin
        clear hr hqk hfin
        go_wp2_with (go_at_call 42; (with_reducible refine (cF _).mono ?_); rintro e w1 ⟨rfl, hb'⟩; replace hB := hB.trans (hb'.mono hq); clear hb')
        go_ret
        exact ⟨by rw [H.out]; rfl, hB⟩
    · obtain rfl : k = n := by omega
      have hfin : idx q k = -1 := by unfold idx; rw [hr, if_neg (by omega)]
      have H := Lib.hid hfin
      clear hr hfin
      go_wp2
      go_ret
      exact ⟨by rw [H.out]; rfl, hB⟩
theorem impl_MayLeave_1_contains (a : Option Addr) (n c : Nat) (P K R : Nat → Int) (w : World) (hz : DoorsAt w a n P K R) (hn : n ≤ 1048576) :
    Calls Tryd.prog 41 #[.slice a n c, .func (.func 42) #[] #[]] w fun e w' => e = .returned (.bool (any (fun j => badDoor (P j) (K j) (R j)) n)) ∧ Below w.heap.size w w' := by
  have hi := fun W h => impl_MayLeave_1_index a n c P K R W h hn
  rw [← idx_ge]
  generalize idx (fun j => badDoor (P j) (K j) (R j)) n = I at *
  go_enter Tryd.func41, Tryd.ntmps41
  go_wp2_with (go_at_call 68; (with_reducible refine (hi _ hz).mono ?_); rintro e w' ⟨rfl, hb⟩; obtain ⟨hc, hf⟩ := bcell hb; have hz : w.heap.size ≤ w'.heap.size := (by have := hb.size; (try simp at this); omega); have hB : Below w.heap.size w w' := Below.trans (by go_grown) (hb.mono (by go_size)))
  go_ret
  exact ⟨rfl, by go_grown⟩
theorem impl_MayLeave (a : Option Addr) (n c : Nat) (P K R : Nat → Int) (ready : Int) (w : World) (hz : DoorsAt w a n P K R) (hn : n ≤ 1048576) :
    Calls Tryd.prog 13 #[.slice a n c, .int .i64 ready] w fun e w' => e = .returned (.bool (mayV P K R n ready)) ∧ Below w.heap.size w w' := by
  have kc := fun W h => impl_MayLeave_1_contains a n c P K R W h hn
  unfold mayV
  generalize any (fun j => badDoor (P j) (K j) (R j)) n = A at *
  by_cases h1 : 0 < n
  · have g1 : decide ((0 : Int) < n) = true := decide_eq_true (by omega)
    rw [decide_eq_true h1, Bool.true_and]
    cases h2 : (ready == 1)
    · go_enter Tryd.func13, Tryd.ntmps13
      go_wp2
      go_returns
      exact ⟨rfl, by go_grown⟩
    · go_enter Tryd.func13, Tryd.ntmps13
      go_wp2_with (go_at_call 41; (with_reducible refine (kc _ hz).mono ?_); rintro e w' ⟨rfl, hb⟩; obtain ⟨hc, hf⟩ := bcell hb; have hz : w.heap.size ≤ w'.heap.size := (by have := hb.size; (try simp at this); omega); have hB : Below w.heap.size w w' := Below.trans (by go_grown) (hb.mono (by go_size)))
      go_returns
      exact ⟨rfl, by go_grown⟩
  · have g1 : decide ((0 : Int) < n) = false := decide_eq_false (by omega)
    rw [decide_eq_false h1]
    go_enter Tryd.func13, Tryd.ntmps13
    go_wp2
    go_returns
    exact ⟨rfl, by go_grown⟩

end Go.Proofs.YtdhjnpjemaofoaaDoor
