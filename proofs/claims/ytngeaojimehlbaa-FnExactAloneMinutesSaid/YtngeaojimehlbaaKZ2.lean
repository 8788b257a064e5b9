/-
  Contracts: the workers at a minute.
-/
import Derived.Test.YtngeaojimehlbaaKY2
import Derived.Test.YtngeaojimehlbaaAp
namespace Go.Proofs.Ytngeaojimehlbaa
open Go.RowKit
set_option linter.unusedVariables false
set_option linter.unusedSimpArgs false

def wAtC (I : Nat → ByteArray) (F U : Nat → Int) (n : Nat) (m : Int) : Int := staffC (validW I F U n) (inB m 0 1440)
def wAtL (I : Nat → ByteArray) (F U : Nat → Int) (n : Nat) (m : Int) : List Int := if wAtC I F U n m = 0 then atL F U m n else []
theorem wAtL_len (I : Nat → ByteArray) (F U : Nat → Int) (n : Nat) (m : Int) : (wAtL I F U n m).length ≤ n := by
  unfold wAtL
  split
  · exact atL_len _ _ _ _
  · simp
theorem wAt_1 {I : Nat → ByteArray} {F U : Nat → Int} {n : Nat} {m : Int} (h : validW I F U n = false) : wAtC I F U n m = 1 ∧ wAtL I F U n m = [] := by
  have e : wAtC I F U n m = 1 := by unfold wAtC staffC; rw [h, if_neg (by decide)]
  exact ⟨e, by unfold wAtL; rw [e, if_neg (by decide)]⟩
theorem wAt_2 {I : Nat → ByteArray} {F U : Nat → Int} {n : Nat} {m : Int} (h : validW I F U n = true) (h2 : inB m 0 1440 = false) : wAtC I F U n m = 2 ∧ wAtL I F U n m = [] := by
  have e : wAtC I F U n m = 2 := by unfold wAtC staffC; rw [h, if_pos rfl, h2, if_neg (by decide)]
  exact ⟨e, by unfold wAtL; rw [e, if_neg (by decide)]⟩
theorem wAt_0 {I : Nat → ByteArray} {F U : Nat → Int} {n : Nat} {m : Int} (h : validW I F U n = true) (h2 : inB m 0 1440 = true) : wAtC I F U n m = 0 ∧ wAtL I F U n m = atL F U m n := by
  have e : wAtC I F U n m = 0 := by unfold wAtC staffC; rw [h, if_pos rfl, h2, if_pos rfl]
  exact ⟨e, by unfold wAtL; rw [e, if_pos rfl]⟩

set_option maxHeartbeats 2000000 in
theorem impl_workersAt (a : Option Addr) (n c : Nat) (I : Nat → ByteArray) (F U : Nat → Int) (m : Int) (w : World) (hz : WorkAt w a n I F U) (hn : n ≤ 1048576) :
    Calls Try.prog 39 #[.slice a n c, .int .i64 m] w (RetRow (atL F U m n) w) := by
  go_enter Try.func39, Try.ntmps39
  go_wp2
  go_loopw [5, 10] (fun u i wr => ∃ k : Nat, k ≤ n ∧ i = .int .i64 k ∧ AppOf w.heap.size wr u (atL F U m k) ∧ Below w.heap.size w wr) (fun _ i _ => n - (intOf i).toNat)
  case atStart => exact ⟨0, by omega, rfl, AppOf.nil _ _, Below.refl _ _⟩
  case round =>
    obtain ⟨k, hk, rfl, hA, hB⟩ := hrel
    have hq := hB.size
    have hlen : (atL F U m k).length ≤ 16777216 := Nat.le_trans (atL_len _ _ _ _) (by omega)
    by_cases hlt : k < n
    · have i0 : (0 : Int) ≤ (k : Int) := by omega
      have i1 : (k : Int) < (n : Int) := by omega
      obtain ⟨b, o, rfl, hb, hc⟩ := hz (by omega)
      obtain ⟨c0, c1, c2⟩ := hc k hlt
      replace c0 := (hB.cell (p := ⟨b, o + k * 3, none⟩) hb).trans c0
      replace c1 := (hB.cell (p := ⟨b, o + k * 3 + 1, none⟩) hb).trans c1
      replace c2 := (hB.cell (p := ⟨b, o + k * 3 + 2, none⟩) hb).trans c2
      have hb1 : b < wr.heap.size := Nat.lt_of_lt_of_le hb hB.size
      clear hc
      by_cases h1 : F k ≤ m
      · by_cases h2 : m < U k
        · have HS := Lib.hid (atL_yes h1 h2)
          generalize atL F U m k = L at *
          go_wp2_with (at_builtin; refine app_int _ rfl _ _ rfl w.heap.size _ _ rfl ((hA.alloc _).alloc _) _ 1 (k : Int) rfl (by go_cell) hlen (by first | exact hq | (simp; omega)) ?_; intro v' w3 hA' hw1)
          go_roundw
          case rel => exact ⟨k + 1, by omega, by go_num, by rw [HS.out]; exact hA', (Below.alloc (Below.alloc hB hq _) (by first | exact hq | (simp; omega)) _).trans hw1⟩
          case measure => simp [intOf]; omega
        · have HS := Lib.hid (atL_no (F := F) (U := U) (m := m) (k := k) (by omega))
          generalize atL F U m k = L at *
          go_wp2
          go_roundw
          case rel => exact ⟨k + 1, by omega, by go_num, by rw [HS.out]; exact hA.alloc _, (Below.alloc hB hq _)⟩
          case measure => simp [intOf]; omega
      · have HS := Lib.hid (atL_no (F := F) (U := U) (m := m) (k := k) (by omega))
        generalize atL F U m k = L at *
        go_wp2
        go_roundw
        case rel => exact ⟨k + 1, by omega, by go_num, by rw [HS.out]; exact hA.alloc _, (Below.alloc hB hq _)⟩
        case measure => simp [intOf]; omega
    · obtain rfl : k = n := by omega
      go_wp2
      go_returns
      exact hA.row hB

set_option maxHeartbeats 2000000 in
theorem spec_l14At (a : Option Addr) (n c : Nat) (I : Nat → ByteArray) (F U : Nat → Int) (m : Int) (w : World) (hz : WorkAt w a n I F U) (hn : n ≤ 1048576) :
    Calls Try.prog 33 #[.slice a n c, .int .i64 m] w (RetRow (atL F U m n) w) := by
  go_enter Try.func33, Try.ntmps33
  go_wp2
  go_loopw [5, 6] (fun u i wr => ∃ k : Nat, k ≤ n ∧ i = .int .i64 k ∧ AppOf w.heap.size wr u (atL F U m k) ∧ Below w.heap.size w wr) (fun _ i _ => n - (intOf i).toNat)
  case atStart => exact ⟨0, by omega, rfl, AppOf.made (Nat.le_refl _), Below.alloc (Below.refl _ _) (Nat.le_refl _) _⟩
  case round =>
    obtain ⟨k, hk, rfl, hA, hB⟩ := hrel
    have hq := hB.size
    have hlen : (atL F U m k).length ≤ 16777216 := Nat.le_trans (atL_len _ _ _ _) (by omega)
    by_cases hlt : k < n
    · have i0 : (0 : Int) ≤ (k : Int) := by omega
      have i1 : (k : Int) < (n : Int) := by omega
      obtain ⟨b, o, rfl, hb, hc⟩ := hz (by omega)
      obtain ⟨c0, c1, c2⟩ := hc k hlt
      replace c0 := (hB.cell (p := ⟨b, o + k * 3, none⟩) hb).trans c0
      replace c1 := (hB.cell (p := ⟨b, o + k * 3 + 1, none⟩) hb).trans c1
      replace c2 := (hB.cell (p := ⟨b, o + k * 3 + 2, none⟩) hb).trans c2
      have hb1 : b < wr.heap.size := Nat.lt_of_lt_of_le hb hB.size
      clear hc
      by_cases h1 : F k ≤ m
      · by_cases h2 : m < U k
        · have HS := Lib.hid (atL_yes h1 h2)
          generalize atL F U m k = L at *
          go_wp2_with (at_builtin; refine app_int _ rfl _ _ rfl w.heap.size _ _ rfl (hA.alloc _) _ 1 (k : Int) rfl (by go_cell) hlen (by first | exact hq | (simp; omega)) ?_; intro v' w3 hA' hw1)
          go_roundw
          case rel => exact ⟨k + 1, by omega, by go_num, by rw [HS.out]; exact hA', (Below.alloc hB (by first | exact hq | (simp; omega)) _).trans hw1⟩
          case measure => simp [intOf]; omega
        · have HS := Lib.hid (atL_no (F := F) (U := U) (m := m) (k := k) (by omega))
          generalize atL F U m k = L at *
          go_wp2
          go_roundw
          case rel => exact ⟨k + 1, by omega, by go_num, by rw [HS.out]; exact hA, hB⟩
          case measure => simp [intOf]; omega
      · have HS := Lib.hid (atL_no (F := F) (U := U) (m := m) (k := k) (by omega))
        generalize atL F U m k = L at *
        go_wp2
        go_roundw
        case rel => exact ⟨k + 1, by omega, by go_num, by rw [HS.out]; exact hA, hB⟩
        case measure => simp [intOf]; omega
    · obtain rfl : k = n := by omega
      go_wp2
      go_returns
      exact hA.row hB

theorem impl_staffed (a : Option Addr) (n c : Nat) (I : Nat → ByteArray) (F U : Nat → Int) (fine : Bool) (w : World) (hW : WorkAt w a n I F U) (hn : szW I n ≤ 1048576) :
    Calls Try.prog 35 #[.slice a n c, .bool fine] w fun e w' => e = .returned (.int .i64 (staffC (validW I F U n) fine)) ∧ Below w.heap.size w w' := by
  have kv := fun W h => impl_ValidWorkers_n a n c I F U W h hn
  generalize validW I F U n = v at *
  cases v <;> cases fine
  all_goals
    go_enter Try.func35, Try.ntmps35
    go_wp2_with (go_at_call 61; (with_reducible refine (kv _ hW).mono ?_); rintro e w' ⟨rfl, hb⟩; obtain ⟨hc, hf⟩ := bcell hb; have hz : w.heap.size ≤ w'.heap.size := (by have := hb.size; (try simp at this); omega); have hB : Below w.heap.size w w' := Below.trans (by go_grown) (hb.mono (by go_size)))
    go_returns
    exact ⟨rfl, hB⟩

end Go.Proofs.Ytngeaojimehlbaa
