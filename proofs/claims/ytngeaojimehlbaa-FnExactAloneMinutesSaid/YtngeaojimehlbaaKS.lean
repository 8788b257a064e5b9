/-
  Contracts of functions over slices of numbers.
-/
import Derived.Test.YtngeaojimehlbaaKZ
import Derived.Test.YtngeaojimehlbaaPs
import Derived.Lib.Hide
namespace Go.Proofs.Ytngeaojimehlbaa
open Go.RowKit
set_option linter.unusedVariables false
set_option linter.unusedSimpArgs false


theorem int64_info : (Try.prog.info? 2).map (fun i => (i.zero, i.size, i.bytes)) = some (some (.int .i64 0), 1, 8) := by kernel_rfl
theorem laws_toInt64S (a : Option Addr) (n c : Nat) (Z : Nat → Int) (w : World) (hz : IntsAt w a n Z) (hn : n ≤ 1048576) :
    Calls Try.prog 16 #[.slice a n c] w fun e w' => e = .returned (.slice (some ⟨w.heap.size, 0, none⟩) n n) ∧ w.alloc (.cells ⟨(List.range n).map fun j => Value.int .i64 (Z j)⟩ 2) = w' := by
  have hmk := fun W => run_make_row' (P := Try.prog) 34 2 (.int .i64 0) 8 Try.underlying34 int64_info rfl .i64 .i64 n (by omega) (by omega) W
  rw [made_zero Z n] at hmk
  go_enter Try.func16, Try.ntmps16
  go_wp2
  go_loopw [4] (fun i wr => ∃ k : Nat, k ≤ n ∧ i = .int .i64 k ∧ wr = w.alloc (.cells ⟨partly Z k n⟩ 2)) (fun i _ => n - (intOf i).toNat)
  case atStart => exact ⟨0, by omega, rfl, rfl⟩
  case round =>
    obtain ⟨k, hk, rfl, rfl⟩ := hrel
    by_cases hlt : k < n
    · obtain ⟨b, o, rfl, hb, hc⟩ := hz (by omega)
      have ck := hc k hlt
      have hset := partly_set Z hlt
      have hl := partly_len Z k n
      generalize partly Z k n = L at *
      generalize hL' : partly Z (k + 1) n = L' at *
      have H := Lib.hid hset
      clear hset hc
      go_wp2
      go_roundw
      case rel => exact ⟨k + 1, by omega, by go_num, by rw [hL', ← H.out]⟩
      case measure => simp [intOf]; omega
    · obtain rfl : k = n := by omega
      rw [partly_full]
      go_wp2
      go_ret
      exact ⟨rfl, rfl⟩

theorem laws_eqInt64S_same (a a' : Option Addr) (n c c' : Nat) (Z : Nat → Int) (w : World) (hz : IntsAt w a n Z) (hz' : IntsAt w a' n Z) (hn : n ≤ 1048576) :
    Calls Try.prog 18 #[.slice a n c, .slice a' n c'] w fun e w' => e = .returned (.bool true) ∧ Below w.heap.size w w' := by
  go_enter Try.func18, Try.ntmps18
  go_wp2
  go_loopw [5] (fun i wr => ∃ k : Nat, k ≤ n ∧ i = .int .i64 k ∧ Below w.heap.size w wr) (fun i _ => n - (intOf i).toNat)
  case atStart => exact ⟨0, by omega, rfl, Below.refl _ _⟩
  case round =>
    obtain ⟨k, hk, rfl, hB⟩ := hrel
    by_cases hlt : k < n
    · obtain ⟨b, o, rfl, hb, hc⟩ := hz (by omega)
      obtain ⟨b', o', rfl, hb', hc'⟩ := hz' (by omega)
      have ck := (hB.cell (p := ⟨b, o + k, none⟩) hb).trans (hc k hlt)
      have ck' := (hB.cell (p := ⟨b', o' + k, none⟩) hb').trans (hc' k hlt)
      have h0 : (0 : Int) ≤ (k : Int) := by omega
      have h1 : (k : Int) < (n : Int) := by omega
      clear hc hc'
      go_wp2
      go_quiet (fail)
      go_wp2
      go_roundw
      case rel => exact ⟨k + 1, by omega, by go_num, below_drewN hB _⟩
      case measure => simp [intOf]; omega
    · obtain rfl : k = n := by omega
      go_wp2
      go_ret
      exact ⟨rfl, hB⟩

end Go.Proofs.Ytngeaojimehlbaa
