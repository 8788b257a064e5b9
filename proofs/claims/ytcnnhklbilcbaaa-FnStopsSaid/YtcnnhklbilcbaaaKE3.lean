/-
  Contracts: the worst grade of a track.
-/
import Derived.Test.YtcnnhklbilcbaaaKD3
import Derived.Test.YtcnnhklbilcbaaaKE
namespace Go.Proofs.Ytcnnhklbilcbaaa
open Go.RowKit
set_option linter.unusedVariables false
set_option linter.unusedSimpArgs false

def worstF (G : Nat → Int) (g0 : Int) (down : Bool) : Nat → Int
  | 0 => g0
  | k + 1 => if down = true then max (worstF G g0 down k) (G k) else min (worstF G g0 down k) (G k)
theorem worstF_true {G : Nat → Int} {g0 : Int} {n : Nat} : g0 ≤ worstF G g0 true n ∧ (∀ k, k < n → G k ≤ worstF G g0 true n) ∧ (worstF G g0 true n = g0 ∨ ∃ k, k < n ∧ worstF G g0 true n = G k) := by
  induction n with
  | zero => exact ⟨Int.le_refl _, fun k hk => absurd hk (by omega), Or.inl rfl⟩
  | succ n ih =>
    obtain ⟨h1, h2, h3⟩ := ih
    have e : worstF G g0 true (n + 1) = max (worstF G g0 true n) (G n) := rfl
    rw [e]
    refine ⟨by omega, fun k hk => ?_, ?_⟩
    · rcases Nat.lt_or_ge k n with h | h
      · have := h2 k h; omega
      · obtain rfl : k = n := by omega
        omega
    · by_cases h : worstF G g0 true n ≤ G n
      · exact Or.inr ⟨n, by omega, by omega⟩
      · rcases h3 with h3 | ⟨k, hk, h3⟩
        · exact Or.inl (by omega)
        · exact Or.inr ⟨k, by omega, by omega⟩
theorem worstF_false {G : Nat → Int} {g0 : Int} {n : Nat} : worstF G g0 false n ≤ g0 ∧ (∀ k, k < n → worstF G g0 false n ≤ G k) ∧ (worstF G g0 false n = g0 ∨ ∃ k, k < n ∧ worstF G g0 false n = G k) := by
  induction n with
  | zero => exact ⟨Int.le_refl _, fun k hk => absurd hk (by omega), Or.inl rfl⟩
  | succ n ih =>
    obtain ⟨h1, h2, h3⟩ := ih
    have e : worstF G g0 false (n + 1) = min (worstF G g0 false n) (G n) := rfl
    rw [e]
    refine ⟨by omega, fun k hk => ?_, ?_⟩
    · rcases Nat.lt_or_ge k n with h | h
      · have := h2 k h; omega
      · obtain rfl : k = n := by omega
        omega
    · by_cases h : G n ≤ worstF G g0 false n
      · exact Or.inr ⟨n, by omega, by omega⟩
      · rcases h3 with h3 | ⟨k, hk, h3⟩
        · exact Or.inl (by omega)
        · exact Or.inr ⟨k, by omega, by omega⟩
theorem worstF_any {G : Nat → Int} {n s : Nat} {down : Bool} (hs : s < n) : worstF G (G s) down n = worstF G (G 0) down n := by
  cases down
  · obtain ⟨a1, a2, a3⟩ := worstF_false (G := G) (g0 := G s) (n := n)
    obtain ⟨b1, b2, b3⟩ := worstF_false (G := G) (g0 := G 0) (n := n)
    have l1 : worstF G (G s) false n ≤ worstF G (G 0) false n := by
      rcases b3 with b3 | ⟨k, hk, b3⟩
      · rw [b3]; exact a2 0 (by omega)
      · rw [b3]; exact a2 k hk
    have l2 : worstF G (G 0) false n ≤ worstF G (G s) false n := by
      rcases a3 with a3 | ⟨k, hk, a3⟩
      · rw [a3]; exact b2 s hs
      · rw [a3]; exact b2 k hk
    omega
  · obtain ⟨a1, a2, a3⟩ := worstF_true (G := G) (g0 := G s) (n := n)
    obtain ⟨b1, b2, b3⟩ := worstF_true (G := G) (g0 := G 0) (n := n)
    have l1 : worstF G (G 0) true n ≤ worstF G (G s) true n := by
      rcases b3 with b3 | ⟨k, hk, b3⟩
      · rw [b3]; exact a2 0 (by omega)
      · rw [b3]; exact a2 k hk
    have l2 : worstF G (G s) true n ≤ worstF G (G 0) true n := by
      rcases a3 with a3 | ⟨k, hk, a3⟩
      · rw [a3]; exact b2 s hs
      · rw [a3]; exact b2 k hk
    omega

set_option maxHeartbeats 1000000 in
theorem impl_worstGrade (a : Option Addr) (n c : Nat) (L G : Nat → Int) (lf lu : Int) (down : Bool) (w : World) (hP : PassAt w a n L G) (hn0 : 1 ≤ n) (hn : n ≤ 12) :
    Calls Try.prog 32 #[.agg #[.slice a n c, .int .i64 lf, .int .i64 lu], .bool down] w fun e w' => e = .returned (.int .i64 (worstF G (G 0) down n)) ∧ Below w.heap.size w w' := by
  obtain ⟨b, o, rfl, hb, hc⟩ := hP (by omega)
  have g0 := (hc 0 (by omega)).2
  rw [Nat.zero_mul, Nat.add_zero] at g0
  have HC := Lib.hid hc
  have i0 : (0 : Int) < (n : Int) := by omega
  clear hc
  go_enter Try.func32, Try.ntmps32
  go_wp2
  go_loopw [5, 16] (fun s i wr => ∃ k : Nat, k ≤ n ∧ i = .int .i64 k ∧ s = .int .i64 (worstF G (G 0) down k) ∧ Below w.heap.size w wr) (fun _ i _ => n - (intOf i).toNat)
  case atStart => exact ⟨0, by omega, rfl, rfl, by go_grown⟩
  case round =>
    clear g0
    obtain ⟨k, hk, rfl, rfl, hB⟩ := hrel
    by_cases hlt : k < n
    · obtain ⟨c0, c1⟩ := HC.out k hlt
      replace c0 := (hB.cell (p := ⟨b, o + k * 2, none⟩) hb).trans c0
      replace c1 := (hB.cell (p := ⟨b, o + k * 2 + 1, none⟩) hb).trans c1
      have hq := hB.size
      have hb1 : b < wr.heap.size := Nat.lt_of_lt_of_le hb hq
      have hE : worstF G (G 0) down (k + 1) = if down = true then max (worstF G (G 0) down k) (G k) else min (worstF G (G 0) down k) (G k) := rfl
      generalize worstF G (G 0) down k = s at *
      generalize G k = y at *
      cases down
      all_goals
        rcases Int.lt_trichotomy s y with h | h | h
        · have h1 : ¬ y < s := by omega
          have E := Lib.hid hE
          clear hE
          go_wp2
          go_roundw
          case rel => exact ⟨k + 1, by omega, by go_num, by rw [E.out]; simp; omega, Below.alloc hB hq _⟩
          case measure => simp [intOf]; omega
        · subst h
          have E := Lib.hid hE
          clear hE
          go_wp2
          go_roundw
          case rel => exact ⟨k + 1, by omega, by go_num, by rw [E.out]; simp, Below.alloc hB hq _⟩
          case measure => simp [intOf]; omega
        · have h1 : ¬ s < y := by omega
          have E := Lib.hid hE
          clear hE
          go_wp2
          go_roundw
          case rel => exact ⟨k + 1, by omega, by go_num, by rw [E.out]; simp; omega, Below.alloc hB hq _⟩
          case measure => simp [intOf]; omega
    · obtain rfl : k = n := by omega
      go_wp2
      go_ret
      exact ⟨rfl, hB⟩

end Go.Proofs.Ytcnnhklbilcbaaa
