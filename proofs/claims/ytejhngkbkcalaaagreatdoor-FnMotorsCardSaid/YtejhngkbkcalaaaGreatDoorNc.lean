/-
  Plain: texts as lists of bytes; a text cut at a byte. No program in sight.
-/
import Derived.Test.YtejhngkbkcalaaaGreatDoorM1
import Derived.Lib.CutLaws
namespace Go.Proofs.YtejhngkbkcalaaaGreatDoor
open Go.RowKit
set_option linter.unusedVariables false
set_option linter.unusedSimpArgs false

theorem len_data (s : ByteArray) : s.data.toList.length = s.size := by rw [Array.length_toList]; rfl
theorem data_inj {a b : ByteArray} (h : a.data.toList = b.data.toList) : a = b := by
  cases a; cases b; congr 1; exact Array.toList_inj.1 h
theorem app_list (a b : ByteArray) : (a ++ b).data.toList = a.data.toList ++ b.data.toList := by rw [ByteArray.data_append, Array.toList_append]
theorem ba_ne {a b : ByteArray} (h : a ≠ b) : (a.toList == b.toList) = false := by
  rw [beq_eq_false_iff_ne, ByteArray.toList_eq, ByteArray.toList_eq]
  exact fun e => h (data_inj e)
theorem ba_eq' {a b : ByteArray} (h : a = b) : (a.toList == b.toList) = true := by rw [h]; simp
theorem cut_list {p q : List UInt8} {c : UInt8} (hp : c ∉ p) : Go.Lib.cut (p ++ c :: q) [c] = (p, q, true) := by
  have hi : Go.Lib.index (p ++ c :: q) [c] = (p.length : Int) := by
    refine Go.Lib.index_first (by simp) ?_ ?_
    · unfold Go.Lib.occAt
      rw [List.drop_left]
      simp [List.isPrefixOf]
    · intro j hj
      unfold Go.Lib.occAt
      rw [List.drop_append_of_le_length (by omega)]
      have : List.drop j p = p[j] :: List.drop (j + 1) p := (List.getElem_cons_drop hj).symm
      rw [this]
      have hne : (c == p[j]) = false := beq_eq_false_iff_ne.2 fun e => hp (e ▸ List.getElem_mem _)
      show ((c == p[j]) && _) = false
      rw [hne]; rfl
  unfold Go.Lib.cut
  rw [hi, if_pos (by omega)]
  simp
/-- The two parts of a text around the first c. -/
def cutA (s : ByteArray) (c : UInt8) : ByteArray := ⟨(Go.Lib.cut s.data.toList [c]).1.toArray⟩
def cutB (s : ByteArray) (c : UInt8) : ByteArray := ⟨(Go.Lib.cut s.data.toList [c]).2.1.toArray⟩
theorem cut_two {p q : ByteArray} {c : UInt8} (hp : c ∉ p.data.toList) : cutA (p ++ ⟨#[c]⟩ ++ q) c = p ∧ cutB (p ++ ⟨#[c]⟩ ++ q) c = q := by
  have e : (p ++ ⟨#[c]⟩ ++ q).data.toList = p.data.toList ++ c :: q.data.toList := by rw [app_list, app_list]; simp
  unfold cutA cutB
  rw [e, cut_list hp]
  exact ⟨data_inj rfl, data_inj rfl⟩
theorem cut_size (s : ByteArray) (c : UInt8) : (cutA s c).size ≤ s.size ∧ (cutB s c).size ≤ s.size := by
  unfold cutA cutB Go.Lib.cut
  rw [← len_data, ← len_data s, ← len_data]
  split <;> simp <;> omega
end Go.Proofs.YtejhngkbkcalaaaGreatDoor
