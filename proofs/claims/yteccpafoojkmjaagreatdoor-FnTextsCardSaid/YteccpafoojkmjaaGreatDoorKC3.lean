/-
  Contracts: the length of a track.
-/
import Derived.Test.YteccpafoojkmjaaGreatDoorM1
import Derived.Test.YteccpafoojkmjaaGreatDoorPtk
import Derived.Test.YteccpafoojkmjaaGreatDoorQu
import Derived.Lib.Hide
namespace Go.Proofs.YteccpafoojkmjaaGreatDoor
open Go.RowKit
set_option linter.unusedVariables false
set_option linter.unusedSimpArgs false


set_option maxHeartbeats 1000000 in
theorem impl_length (a : Option Addr) (n c : Nat) (L G : Nat → Int) (lf lu : Int) (w : World) (hP : PassAt w a n L G) (hn : n ≤ 12) (hL : ∀ k, k < n → 1 ≤ L k ∧ L k ≤ 3000000) :
    Calls Tryz.prog 47 #[.agg #[.slice a n c, .int .i64 lf, .int .i64 lu]] w fun e w' => e = .returned (.int .i64 (lenT L n)) ∧ Below w.heap.size w w' := by
  have HL := Lib.hid (lenT_le hL)
  have HL1 := Lib.hid hL
  clear hL
  go_enter Tryz.func47, Tryz.ntmps47
  go_wp2
  go_loopw [3, 9] (fun s i wr => ∃ k : Nat, k ≤ n ∧ i = .int .i64 k ∧ s = .int .i64 (lenT L k) ∧ Below w.heap.size w wr) (fun _ i _ => n - (intOf i).toNat)
  case atStart => exact ⟨0, by omega, rfl, rfl, by go_grown⟩
  case round =>
    obtain ⟨k, hk, rfl, rfl, hB⟩ := hrel
    by_cases hlt : k < n
    · obtain ⟨b, o, rfl, hb, hc⟩ := hP (by omega)
      obtain ⟨c0, c1⟩ := hc k hlt
      replace c0 := (hB.cell (p := ⟨b, o + k * 2, none⟩) hb).trans c0
      replace c1 := (hB.cell (p := ⟨b, o + k * 2 + 1, none⟩) hb).trans c1
      have hq := hB.size
      have hb1 : b < wr.heap.size := Nat.lt_of_lt_of_le hb hq
      have hl1 := HL.out k hk
      have hl2 := HL1.out k hlt
      have hE : lenT L (k + 1) = lenT L k + L k := rfl
      have E := Lib.hid hE
      clear hc hE
      generalize lenT L k = s at *
      go_wp2
      go_roundw
      case rel => exact ⟨k + 1, by omega, by go_num, by rw [E.out], Below.alloc hB hq _⟩
      case measure => simp [intOf]; omega
    · obtain rfl : k = n := by omega
      go_wp2
      go_ret
      exact ⟨rfl, hB⟩

set_option maxHeartbeats 1000000 in
theorem spec_l03Length (g q : Nat) (a : Option Addr) (n c : Nat) (L G : Nat → Int) (w : World) (t0 : w.cell? ⟨g, q, none⟩ = some (.slice a n c)) (hP : PassAt w a n L G) (hn : n ≤ 12) (hL : ∀ k, k < n → 1 ≤ L k ∧ L k ≤ 3000000) :
    Calls Tryz.prog 39 #[.pointer (some ⟨g, q, none⟩)] w fun e w' => e = .returned (.int .i64 (lenT L n)) ∧ w = w' := by
  have HL := Lib.hid (lenT_le hL)
  have HL1 := Lib.hid hL
  clear hL
  go_enter Tryz.func39, Tryz.ntmps39
  go_wp2
  go_loop [3, 4] (fun s i => ∃ k : Nat, k ≤ n ∧ i = .int .i64 k ∧ s = .int .i64 (lenT L k)) (fun _ i => n - (intOf i).toNat)
  case atStart => exact ⟨0, by omega, rfl, rfl⟩
  case round =>
    obtain ⟨k, hk, rfl, rfl⟩ := hrel
    by_cases hlt : k < n
    · obtain ⟨b, o, rfl, hb, hc⟩ := hP (by omega)
      obtain ⟨c0, c1⟩ := hc k hlt
      have hl1 := HL.out k hk
      have hl2 := HL1.out k hlt
      have hE : lenT L (k + 1) = lenT L k + L k := rfl
      have E := Lib.hid hE
      clear hc hE
      generalize lenT L k = s at *
      go_wp2
      go_round
      case rel => exact ⟨k + 1, by omega, by go_num, by rw [E.out]⟩
      case measure => simp [intOf]; omega
    · obtain rfl : k = n := by omega
      go_wp2
      go_ret
      exact ⟨rfl, rfl⟩

end Go.Proofs.YteccpafoojkmjaaGreatDoor
