/-
  Contracts: a text split at a byte.
-/
import Derived.Test.YthcmjnfenedpkaaDoorTs
import Derived.Test.YthcmjnfenedpkaaDoorDec
import Derived.Test.YthcmjnfenedpkaaDoorKX2
namespace Go.Proofs.YthcmjnfenedpkaaDoor
open Go.RowKit
set_option linter.unusedVariables false
set_option linter.unusedSimpArgs false

def spF (s : ByteArray) (c : Int) : Nat → Nat
  | 0 => 0
  | k + 1 => if ((s.get! k).toNat : Int) = c then k + 1 else spF s c k
def spL (s : ByteArray) (c : Int) : Nat → List ByteArray
  | 0 => []
  | k + 1 => if ((s.get! k).toNat : Int) = c then spL s c k ++ [s.extract (spF s c k) k] else spL s c k
def splitL (s : ByteArray) (c : Int) : List ByteArray := spL s c s.size ++ [s.extract (spF s c s.size) s.size]
theorem spF_le (s : ByteArray) (c : Int) : ∀ k, spF s c k ≤ k
  | 0 => Nat.le_refl _
  | k + 1 => by have := spF_le s c k; unfold spF; split <;> omega
theorem spL_le (s : ByteArray) (c : Int) : ∀ k, (spL s c k).length ≤ k
  | 0 => Nat.le_refl _
  | k + 1 => by
    have := spL_le s c k
    unfold spL
    split
    · rw [List.length_append]; show _ + 1 ≤ _; omega
    · omega

set_option maxHeartbeats 1000000 in
theorem spec_l01Split (s : ByteArray) (c : Int) (w : World) (hs : s.size ≤ 1048576) : Calls Tryd.prog 14 #[.string s, .int .u8 c] w fun e w' => ∃ v, e = .returned v ∧ StrsOf w.heap.size w' v (splitL s c) ∧ Below w.heap.size w w' := by
  obtain ⟨n, hn⟩ : ∃ n, n = s.size := ⟨_, rfl⟩
  have HF := Lib.hid (show splitL s c = spL s c n ++ [s.extract (spF s c n) n] by rw [hn]; rfl)
  go_enter Tryd.func14, Tryd.ntmps14
  go_wp2
  go_loopw [5, 6, 7] (fun v f i wr => ∃ k : Nat, k ≤ n ∧ f = .int .i64 (spF s c k) ∧ i = .int .i64 k ∧ StrsOf w.heap.size wr v (spL s c k) ∧ Below w.heap.size w wr) (fun _ _ i _ => n - (intOf i).toNat)
  case atStart => exact ⟨0, by omega, rfl, rfl, ⟨rfl, .inr ⟨w.heap.size, 0, #[], rfl, Nat.le_refl _, by show (w.heap.push _)[w.heap.size]? = _; simp, Nat.le_refl _, by decide, rfl, rfl⟩⟩, by go_grown⟩
  case round =>
    obtain ⟨k, hk, rfl, rfl, hS, hB⟩ := hrel
    have hf := spF_le s c k
    have hl := spL_le s c k
    by_cases hlt : k < n
    · have hlt2 : k < s.size := by omega
      have i0 : (0 : Int) ≤ (k : Int) := by omega
      have i1 : (k : Int) < (s.size : Int) := by omega
      have hg : ((s[k]'hlt2).toNat : Int) = ((s.get! k).toNat : Int) := by rw [get_byte hlt2]
      by_cases hc : ((s.get! k).toNat : Int) = c
      · have HN := Lib.hid (show spL s c (k + 1) = spL s c k ++ [s.extract (spF s c k) k] by rw [spL, if_pos hc])
        have HF1 := Lib.hid (show spF s c (k + 1) = k + 1 by rw [spF, if_pos hc])
        generalize spF s c k = F at *
        generalize spL s c k = L at *
        generalize hz : ((s[k]'hlt2).toNat : Int) = z at *
        have hzc : z = c := by omega
        subst hzc
        clear hg hc
        have f0 : (0 : Int) ≤ (F : Int) := by omega
        have f1 : (F : Int) ≤ (k : Int) := by omega
        have f2 : (k : Int) ≤ (s.size : Int) := by omega
        go_wp2_with (at_builtin; refine app_cells 36 9 _ 1 16 string_info Tryd.underlying36 rfl (by decide) (by decide) _ rfl _ _ rfl w.heap.size _ _ _ rfl (World.ownsRow.alloc hS _) _ _ [.string (s.extract F k)] rfl rfl (cells1 (by go_cell)) (oneS _) (by omega) (by have := hB.size; simp; omega) ?_; intro v' w8 hL hb8 _; have hS8 := StrsOf.snoc (c := s.extract F k) hL; have hB8 := (Below.alloc hB hB.size _).trans hb8; clear hL hb8)
        go_roundw
        case rel => exact ⟨k + 1, by omega, by rw [HF1.out]; go_num, by go_num, by rw [HN.out]; exact hS8, hB8⟩
        case measure => simp [intOf]; omega
      · have HN := Lib.hid (show spL s c (k + 1) = spL s c k by rw [spL, if_neg hc])
        have HF1 := Lib.hid (show spF s c (k + 1) = spF s c k by rw [spF, if_neg hc])
        rw [← hg] at hc
        generalize hz : ((s[k]'hlt2).toNat : Int) = z at *
        clear hg
        go_wp2
        go_roundw
        case rel => exact ⟨k + 1, by omega, by rw [HF1.out], by go_num, by rw [HN.out]; exact hS, hB⟩
        case measure => simp [intOf]; omega
    · obtain rfl : k = n := by omega
      have f0 : (0 : Int) ≤ ((spF s c k : Nat) : Int) := by omega
      have f1 : ((spF s c k : Nat) : Int) ≤ (s.size : Int) := by omega
      generalize spF s c k = F at *
      generalize spL s c k = L at *
      go_wp2_with (at_builtin; refine app_cells 36 9 _ 1 16 string_info Tryd.underlying36 rfl (by decide) (by decide) _ rfl _ _ rfl w.heap.size _ _ _ rfl (World.ownsRow.alloc hS _) _ _ [.string (s.extract F s.size)] rfl rfl (cells1 (by go_cell)) (oneS _) (by omega) (by have := hB.size; simp; omega) ?_; intro v' w8 hL hb8 _; have hS8 := StrsOf.snoc (c := s.extract F s.size) hL; have hB8 := (Below.alloc hB hB.size _).trans hb8; clear hL hb8)
      go_returns
      exact ⟨_, rfl, by rw [HF.out, hn]; exact hS8, hB8⟩

end Go.Proofs.YthcmjnfenedpkaaDoor
