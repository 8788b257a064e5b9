/-
  Contracts: a brake drawn; numbers that an input chooses.
-/
import Derived.Test.YtccejaneammplaaSrc
import Derived.Test.YtccejaneammplaaKX
namespace Go.Proofs.Ytccejaneammplaa
open Go.RowKit
set_option linter.unusedVariables false
set_option linter.unusedSimpArgs false

theorem Keep.cellk {lo hi b o : Nat} {w w' : World} (k : Keep lo hi w w') (hb : b < w.heap.size) (hn : ¬ (lo ≤ b ∧ b < hi)) : w'.cell? ⟨b, o, none⟩ = w.cell? ⟨b, o, none⟩ := World.cell?_of_block (a := ⟨b, o, none⟩) (k.block b hb hn)
theorem Keep.frozenk {lo hi b o : Nat} {w w' : World} (k : Keep lo hi w w') (hb : b < w.heap.size) (hn : ¬ (lo ≤ b ∧ b < hi)) : w'.frozen? ⟨b, o, none⟩ = w.frozen? ⟨b, o, none⟩ := World.frozen?_of_block (a := ⟨b, o, none⟩) (k.block b hb hn)
theorem Keep.setFresh {lo hi g j B : Nat} {w w' : World} {u : Value} (h : Keep lo hi w w') (hB : w.heap.size ≤ g) : Keep lo hi w (w'.setCell ⟨g, j, none⟩ u) :=
  ⟨h.os, h.tape, h.output, by simpa [World.setCell] using h.size, fun k hk hne => (Below.heap_setCell w' ⟨g, j, none⟩ u k (fun e => by simp at e; omega)).trans (h.block k hk hne)⟩

theorem laws_r8Long (a a' : Option Addr) (n n' c c' : Nat) (w : World) : Calls Try.prog 4 #[.slice a n c, .slice a' n' c'] w fun e w' => e = .returned (.bool (decide (1048576 < n) || decide (1048576 < n'))) ∧ w = w' := by
  have e1 : decide (1048576 < n) = decide ((1048576 : Int) < (n : Int)) := by congr 1; exact propext (by omega)
  have e2 : decide (1048576 < n') = decide ((1048576 : Int) < (n' : Int)) := by congr 1; exact propext (by omega)
  rw [e1, e2]
  clear e1 e2
  by_cases h1 : (1048576 : Int) < (n : Int) <;> by_cases h2 : (1048576 : Int) < (n' : Int)
  all_goals
    first | rw [decide_eq_true h1] | rw [decide_eq_false h1]
    first | rw [decide_eq_true h2] | rw [decide_eq_false h2]
    go_enter Try.func4, Try.ntmps4
    go_wp2
    go_returns
    exact ⟨rfl, rfl⟩

theorem laws_r8At (a : Option Addr) (n c : Nat) (k m : Int) (w : World) (h : BytesAt w a n) (hn : n ≤ 1048576) (hk : 0 ≤ k) (hm : 1 ≤ m) (hm2 : m ≤ 65536) :
    Calls Try.prog 12 #[.slice a n c, .int .i64 k, .int .i64 m] w fun e w' => ∃ v, e = .returned (.int .i64 v) ∧ 0 ≤ v ∧ v < m ∧ w = w' := by
  by_cases h1 : m ≤ 1
  · go_enter Try.func12, Try.ntmps12
    go_wp2
    go_returns
    exact ⟨0, rfl, by omega, by omega, rfl⟩
  · by_cases h2 : (n : Int) ≤ k
    · go_enter Try.func12, Try.ntmps12
      go_wp2
      go_returns
      exact ⟨0, rfl, by omega, by omega, rfl⟩
    · obtain ⟨j, rfl⟩ : ∃ j : Nat, k = j := ⟨k.toNat, by omega⟩
      obtain ⟨b, o, rfl, hb, hc⟩ := h (by omega)
      obtain ⟨z, z0, z1, hz⟩ := hc j (by omega)
      have n0 : ¬ m = 0 := by omega
      clear hc
      go_enter Try.func12, Try.ntmps12
      go_wp2
      go_returns
      refine ⟨_, rfl, ?_, ?_, rfl⟩
      all_goals first | exact Int.emod_nonneg _ (by omega) | exact Int.emod_lt_of_pos _ (by omega) | (rw [Int.tmod_eq_emod_of_nonneg (by omega)]; first | exact Int.emod_nonneg _ (by omega) | exact Int.emod_lt_of_pos _ (by omega))

end Go.Proofs.Ytccejaneammplaa
