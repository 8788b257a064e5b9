/-
  Plain: the library's split of a text at one byte is that of the reference.
-/
import Derived.Test.YtejhngkbkcalaaaGreatDoorNw
import Derived.Lib.Split
import Derived.Lib.SplitLaws
import Derived.Lib.IndexMore
import Derived.Lib.Replace
namespace Go.Proofs.YtejhngkbkcalaaaGreatDoor
open Go.RowKit
set_option linter.unusedVariables false
set_option linter.unusedSimpArgs false

def prepB (cur : List UInt8) : List (List UInt8) → List (List UInt8)
  | [] => [cur]
  | x :: X => (cur ++ x) :: X
def skB (c : UInt8) (l : List UInt8) : List (List UInt8) := Go.Lib.splitK [c] 0 (Go.Lib.count l [c]) l
theorem skB_nil (c : UInt8) : skB c [] = [[]] := by
  unfold skB
  rw [Go.Lib.count_one]
  rfl
theorem skB_eq (c : UInt8) (l : List UInt8) : skB c (c :: l) = [] :: skB c l := by
  unfold skB
  rw [Go.Lib.count_cons_eq, Nat.add_comm 1]
  have hix : Go.Lib.index (c :: l) [c] = 0 := by rw [Go.Lib.index]; simp [List.isPrefixOf]
  show (if (Go.Lib.index (c :: l) [c] == -1) = true then [c :: l] else (c :: l).take ((Go.Lib.index (c :: l) [c]).toNat + 0) :: Go.Lib.splitK [c] 0 (Go.Lib.count l [c]) ((c :: l).drop ((Go.Lib.index (c :: l) [c]).toNat + [c].length))) = _
  rw [hix]
  simp
theorem skB_ne {b c : UInt8} (h : b ≠ c) (l : List UInt8) : skB c (b :: l) = prepB [b] (skB c l) := by
  unfold skB
  rw [Go.Lib.count_cons_ne b c l h]
  have hp : ([c] : List UInt8).isPrefixOf (b :: l) = false := by simp [List.isPrefixOf, Ne.symm h]
  have hix : Go.Lib.index (b :: l) [c] = if Go.Lib.index l [c] == -1 then -1 else Go.Lib.index l [c] + 1 := by rw [Go.Lib.index, hp]; simp
  cases hk : Go.Lib.count l [c] with
  | zero => rfl
  | succ k =>
    obtain ⟨i, hi⟩ := Go.Lib.index_of_count (s := l) (old := [c]) (by omega)
    have e1 : (Go.Lib.index l [c] == -1) = false := by rw [hi]; simp
    have e2 : Go.Lib.index (b :: l) [c] = ((i + 1 : Nat) : Int) := by rw [hix, e1, hi]; simp
    have e3 : (Go.Lib.index (b :: l) [c] == -1) = false := by rw [e2]; simp; omega
    show (if (Go.Lib.index (b :: l) [c] == -1) = true then [b :: l] else (b :: l).take ((Go.Lib.index (b :: l) [c]).toNat + 0) :: Go.Lib.splitK [c] 0 k ((b :: l).drop ((Go.Lib.index (b :: l) [c]).toNat + [c].length))) = prepB [b] (if (Go.Lib.index l [c] == -1) = true then [l] else l.take ((Go.Lib.index l [c]).toNat + 0) :: Go.Lib.splitK [c] 0 k (l.drop ((Go.Lib.index l [c]).toNat + [c].length)))
    rw [e1, e3, e2, hi]
    simp [prepB]
theorem prepB_two (a b : List UInt8) (X : List (List UInt8)) : prepB a (prepB b X) = prepB (a ++ b) X := by
  cases X <;> simp [prepB]
theorem skB_fold (c : UInt8) : ∀ (l : List UInt8) (A : List (List UInt8)) (cur : List UInt8), (l.foldl (stepS c) (A, cur)).1 ++ [(l.foldl (stepS c) (A, cur)).2] = A ++ prepB cur (skB c l)
  | [], A, cur => by rw [skB_nil]; simp [prepB]
  | b :: l, A, cur => by
    rw [List.foldl_cons]
    by_cases h : b = c
    · subst h
      rw [show stepS b (A, cur) b = (A ++ [cur], []) by simp [stepS], skB_fold b l, skB_eq]
      have hne : ∃ x X, skB b l = x :: X := by
        cases hx : skB b l with
        | nil =>
          unfold skB at hx
          cases hk : Go.Lib.count l [b] with
          | zero => rw [hk] at hx; simp [Go.Lib.splitK] at hx
          | succ k => rw [hk] at hx; unfold Go.Lib.splitK at hx; split at hx <;> simp at hx
        | cons x X => exact ⟨x, X, rfl⟩
      obtain ⟨x, X, hx⟩ := hne
      rw [hx]; simp [prepB]
    · rw [show stepS c (A, cur) b = (A, cur ++ [b]) by simp [stepS, h], skB_fold c l, skB_ne h, prepB_two]
theorem split_B (s : ByteArray) (c : UInt8) : Go.Lib.splitB ⟨#[c]⟩ 0 (Go.Lib.countB s ⟨#[c]⟩) s = splitL s (c.toNat : Int) := by
  apply map_data_inj
  rw [Go.Lib.splitB_data, split_list]
  have h := skB_fold c s.data.toList [] []
  have hne : prepB [] (skB c s.data.toList) = skB c s.data.toList := by
    cases hx : skB c s.data.toList with
    | nil =>
      unfold skB at hx
      cases hk : Go.Lib.count s.data.toList [c] with
      | zero => rw [hk] at hx; simp [Go.Lib.splitK] at hx
      | succ k => rw [hk] at hx; unfold Go.Lib.splitK at hx; split at hx <;> simp at hx
    | cons x X => simp [prepB]
  rw [hne, List.nil_append] at h
  exact h.symm
end Go.Proofs.YtejhngkbkcalaaaGreatDoor
