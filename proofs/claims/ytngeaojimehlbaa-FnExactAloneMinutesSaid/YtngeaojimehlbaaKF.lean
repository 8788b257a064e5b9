/-
  Contracts: copies, comparisons and marks of slices of numbers.
-/
import Derived.Test.YtngeaojimehlbaaKS
import Derived.Test.YtngeaojimehlbaaPk
namespace Go.Proofs.Ytngeaojimehlbaa
open Go.RowKit
set_option linter.unusedVariables false
set_option linter.unusedSimpArgs false


theorem laws_toInt64S_in {lo hi : Nat} (a : Option Addr) (n c : Nat) (Z : Nat → Int) (w : World) (h : CellsIn lo hi w a n (fun j => .int .i64 (Z j))) (hn : n ≤ 1048576) :
    Calls Try.prog 16 #[.slice a n c] w (RetSlice n n (fun j => .int .i64 (Z j)) w) :=
  (laws_toInt64S a n c Z w h.ints hn).mono fun e w' ⟨he, hw⟩ => by
    have r : RowAt w' w.heap.size n 2 Z := by rw [← hw]; exact heap_alloc_new w _
    have hb : Below w.heap.size w w' := by rw [← hw]; exact Below.alloc (Below.refl _ _) (Nat.le_refl _) _
    exact ⟨_, n, he, r.ownIn (Nat.le_refl _) r.lt, hb⟩

theorem laws_eqInt64S_in {lo hi lo' hi' : Nat} (a a' : Option Addr) (n c c' : Nat) (Z : Nat → Int) (w : World) (h : CellsIn lo hi w a n (fun j => .int .i64 (Z j))) (h' : CellsIn lo' hi' w a' n (fun j => .int .i64 (Z j))) (hn : n ≤ 1048576) :
    Calls Try.prog 18 #[.slice a n c, .slice a' n c'] w fun e w' => e = .returned (.bool true) ∧ Below w.heap.size w w' :=
  laws_eqInt64S_same a a' n c c' Z w h.ints h'.ints hn

theorem laws_markInt64S {lo hi : Nat} (a : Option Addr) (n c : Nat) (V : Nat → Value) (k : Int) (w : World) (hz : OwnIn lo hi w a n V) (hn : n ≤ 1048576) (h0 : 0 ≤ k) (h1 : k ≤ 1000000000) :
    Calls Try.prog 42 #[.slice a n c, .int .i64 k] w fun e w' => e = .returned (.int .i64 (k + n)) ∧ OwnIn lo hi w' a n (marksFrom k) ∧ Keep lo hi w w' := by
  go_enter Try.func42, Try.ntmps42
  go_wp2
  go_loopw [1, 5] (fun x i wr => ∃ m : Nat, m ≤ n ∧ i = .int .i64 m ∧ x = .int .i64 (k + m) ∧ OwnIn lo hi wr a n (fun j => if j < m then marksFrom k j else V j) ∧ Keep lo hi w wr) (fun _ i _ => n - (intOf i).toNat)
  case atStart => exact ⟨0, by omega, rfl, by simp, hz.cong (fun j _ => by simp), Keep.refl _ _ _⟩
  case round =>
    obtain ⟨m, hm, rfl, rfl, hO, hG⟩ := hrel
    by_cases hlt : m < n
    · have hO2 := hO
      obtain ⟨g, rfl, hB1, hB2, hl, hc⟩ := hO (by omega)
      have f1 := (hc m hlt).2
      have c1 : wr.cell? ⟨g, m, none⟩ = some (V m) := by
        have h := (hc m hlt).1
        dsimp only at h
        rwa [if_neg (by omega)] at h
      have HC := Lib.hid hc
      clear hc
      go_wp2
      go_roundw
      case rel => exact ⟨m + 1, by omega, by go_num, by rw [show k + ((m + 1 : Nat) : Int) = k + m + 1 by omega], (hO2.set hlt (marksFrom k m)).cong (fun j hj => by
        by_cases h1 : j = m
        · subst h1; rw [if_pos rfl, if_pos (by omega)]
        · rw [if_neg h1]; (try dsimp only); by_cases h2 : j < m
          · rw [if_pos h2, if_pos (by omega)]
          · rw [if_neg h2, if_neg (by omega)]), hG.set hB1 hB2⟩
      case measure => simp [intOf]; omega
    · obtain rfl : m = n := by omega
      go_wp2
      go_ret
      exact ⟨rfl, hO.cong (fun j hj => by rw [if_pos hj]), hG⟩

theorem laws_heldInt64S {lo hi : Nat} (a : Option Addr) (n c : Nat) (k : Int) (w : World) (hz : CellsIn lo hi w a n (marksFrom k)) (hn : n ≤ 1048576) (h0 : 0 ≤ k) (h1 : k ≤ 1000000000) :
    Calls Try.prog 43 #[.slice a n c, .int .i64 k] w fun e w' => e = .returned (.int .i64 (k + n)) ∧ w = w' := by
  go_enter Try.func43, Try.ntmps43
  go_wp2
  go_loop [1, 5] (fun x i => ∃ m : Nat, m ≤ n ∧ i = .int .i64 m ∧ x = .int .i64 (k + m)) (fun _ i => n - (intOf i).toNat)
  case atStart => exact ⟨0, by omega, rfl, by simp⟩
  case round =>
    obtain ⟨m, hm, rfl, rfl⟩ := hrel
    by_cases hlt : m < n
    · obtain ⟨b, o, rfl, _, _, hb, hc⟩ := hz (by omega)
      have ck : w.cell? ⟨b, o + m, none⟩ = some (.int .i64 (k + m)) := hc m hlt
      clear hc
      go_wp2
      go_round
      case rel => exact ⟨m + 1, by omega, by go_num, by rw [show k + ((m + 1 : Nat) : Int) = k + m + 1 by omega]⟩
      case measure => simp [intOf]; omega
    · obtain rfl : m = n := by omega
      go_wp2
      go_ret
      exact ⟨rfl, rfl⟩

end Go.Proofs.Ytngeaojimehlbaa
