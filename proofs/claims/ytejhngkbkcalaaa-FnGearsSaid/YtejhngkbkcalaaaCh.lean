/-
  Contracts: rides given to the cheapest hours.
-/
import Derived.Test.YtejhngkbkcalaaaSs
import Derived.Test.YtejhngkbkcalaaaAr
import Derived.Test.YtejhngkbkcalaaaDl
namespace Go.Proofs.Ytejhngkbkcalaaa
open Go.RowKit
set_option linter.unusedVariables false
set_option linter.unusedSimpArgs false

theorem cost_bd {r t : Int} {O : Nat → Nat} {P : Nat → Int} {n : Nat} (r0 : 0 ≤ r) (t1 : 1 ≤ t) (t2 : t ≤ 1000) (ho : OrderOf O n) (hp : ∀ j, j < n → 0 ≤ P j ∧ P j ≤ 10000) : ∀ k : Nat, k ≤ n →
    (0 ≤ costV r t O P k ∧ costV r t O P k ≤ 10000000 * (k : Int))
  | 0, _ => by simp [costV]
  | k + 1, hk => by
    have ih := cost_bd r0 t1 t2 ho hp k (by omega)
    have hr := rem_bd (r := r) (e := t) r0 t1 k
    have h := hp (O k) (ho.lt k (by omega))
    have hg : 0 ≤ givV r t k ∧ givV r t k ≤ 1000 := by unfold givV; omega
    have m := mul_bd hg.1 hg.2 h.1 h.2
    show 0 ≤ costV r t O P k + givV r t k * P (O k) ∧ costV r t O P k + givV r t k * P (O k) ≤ _
    omega
theorem own_zero (w : World) (n : Nat) (ty : TypeId) : OwnIn w.heap.size (w.heap.size + 1) (w.alloc (.cells (madeCells #[.int .i64 0] n) ty)) (some ⟨w.heap.size, 0, none⟩) n (fun _ => .int .i64 0) := by
  have ho := own_new (lo := w.heap.size) (hi := w.heap.size + 1) w (madeCells #[.int .i64 0] n) ty (Nat.le_refl _) (Nat.lt_succ_self _)
  rw [size_madeCells] at ho
  refine ho.cong (fun j hj => ?_)
  have e : madeCells #[Value.int .i64 0] n = ⟨List.replicate n (.int .i64 0)⟩ := by
    rw [← toList_madeCells_one]
  rw [e]
  simp [hj]
def idsL (k : Nat) : List Int := (List.range k).map (fun (j : Nat) => ((j : Nat) : Int))
theorem idsL_len (k : Nat) : (idsL k).length = k := by simp [idsL]
theorem idsL_next (k : Nat) : idsL (k + 1) = idsL k ++ [(k : Int)] := by simp [idsL, List.range_succ]
theorem idsL_at {j k : Nat} (h : j < k) : (idsL k).getD j 0 = (j : Int) := by simp [idsL, h]
/-- What CheapestHours returns. -/
def HoursRes (P : Nat → Int) (n : Nat) (r t : Int) (W : World) (e : Ending) : Prop :=
  ∃ aH m cH cost E, e = .returned (.tuple #[.slice aH m cH, .int .i64 cost, .int .i64 E]) ∧ ((E ≠ 0 ∧ m = 0 ∧ cost = 0) ∨
    (E = 0 ∧ m = n ∧ n ≤ 60 ∧ (0 ≤ r ∧ r ≤ 1000) ∧ (1 ≤ t ∧ t ≤ 1000) ∧ r ≤ t * (n : Int) ∧ (∀ j, j < n → 0 ≤ P j ∧ P j ≤ 10000) ∧ ∃ O, OrderOf O n ∧ sortedBy P O n ∧ IntsAt W aH n (hrsV r t O n) ∧ cost = costV r t O P n))

theorem impl_size_h (a : Option Addr) (n c : Nat) (w : World) : Calls Try.prog 45 #[.slice a n c] w fun e w' => e = .returned (.int .i64 n) ∧ w = w' := by
  go_enter Try.func45, Try.ntmps45
  go_wp2
  go_ret
  exact ⟨rfl, rfl⟩

theorem sort_insertion_nil (f : Value) (w : World) : Calls Try.prog 61 #[.slice none 0 0, .int .i64 0, .int .i64 0, f] w fun e w' => e = .returned (.tuple #[]) ∧ w' = w := by
  go_enter Try.func61, Try.ntmps61
  go_wp2_with fail
  go_loopw [8] (fun i wr => i = .int .i64 1 ∧ wr = w) (fun _ _ => 0)
  case atStart => exact ⟨rfl, rfl⟩
  case round =>
    obtain ⟨rfl, rfl⟩ := hrel
    go_wp2_with fail
    go_returns
    exact ⟨rfl, rfl⟩
theorem sort_stable_nil (f : Value) (w : World) : Calls Try.prog 58 #[.slice none 0 0, .int .i64 0, f] w fun e w' => e = .returned (.tuple #[]) ∧ w' = w := by
  have ki := fun W => sort_insertion_nil f W
  go_enter Try.func58, Try.ntmps58
  go_wp2_with fail
  go_loopw [7, 8] (fun a b wr => a = .int .i64 0 ∧ b = .int .i64 20 ∧ wr = w) (fun _ _ _ => 0)
  case atStart => exact ⟨rfl, rfl, rfl⟩
  case round =>
    obtain ⟨rfl, rfl, rfl⟩ := hrel
    go_wp2_with fail
    refine (ki _).mono ?_
    rintro e w1 ⟨rfl, rfl⟩
    go_wp2_with fail
    go_loopw [6, 7, 8] (fun s _ _ wr => s = .int .i64 20 ∧ wr = w1) (fun _ _ _ _ => 0)
    case atStart => exact ⟨rfl, rfl⟩
    case round =>
      obtain ⟨rfl, rfl⟩ := hrel
      go_wp2_with fail
      go_returns
      exact ⟨rfl, rfl⟩
theorem sort_nilF (f : Value) (w : World) : Calls Try.prog 46 #[.slice none 0 0, f] w fun e w' => e = .returned (.tuple #[]) ∧ w' = w := by
  have ks := sort_stable_nil f w
  go_enter Try.func46, Try.ntmps46
  go_wp2_with fail
  refine ks.mono ?_
  rintro e w1 ⟨rfl, rfl⟩
  go_wp2_with fail
  go_returns
  exact ⟨rfl, rfl⟩

end Go.Proofs.Ytejhngkbkcalaaa
