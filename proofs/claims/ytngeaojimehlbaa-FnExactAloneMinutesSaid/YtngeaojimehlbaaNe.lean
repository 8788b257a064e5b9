/-
  Lists of pairs of numbers, each pair a row of its own: how a call gathers them, and how they are read, marked and read again.
-/
import Derived.Test.YtngeaojimehlbaaAn
import Derived.Test.YtngeaojimehlbaaAp
import Derived.Test.YtngeaojimehlbaaKF
namespace Go.Proofs.Ytngeaojimehlbaa
open Go.RowKit
set_option linter.unusedVariables false
set_option linter.unusedSimpArgs false


def prV (p : Int × Int) : Nat → Value := fun q => if q = 0 then .int .i64 p.1 else .int .i64 p.2
def prO (p : Int × Int) : Obj := .cells #[.int .i64 p.1, .int .i64 p.2] 2
/-- A slice of n pairs: the outer row and each pair's row lie in blocks of their own from lo to hi. -/
def NestV (lo hi : Nat) (w : World) (a : Option Addr) (n : Nat) (V : Nat → Nat → Value) : Prop :=
  0 < n → ∃ (g0 : Nat) (G : Nat → Nat), a = some ⟨g0, 0, none⟩ ∧ lo ≤ g0 ∧ g0 < hi ∧ OwnIn g0 (g0 + 1) w a n (fun j => .slice (some ⟨G j, 0, none⟩) 2 2) ∧
    (∀ j, j < n → lo ≤ G j ∧ G j < hi ∧ G j ≠ g0 ∧ OwnIn (G j) (G j + 1) w (some ⟨G j, 0, none⟩) 2 (V j)) ∧ ∀ i j, i < n → j < n → G i = G j → i = j
section
variable {lo hi lo' hi' n : Nat} {w w' : World} {a : Option Addr} {V V' : Nat → Nat → Value}
theorem NestV.below (h : NestV lo hi w a n V) (k : Below w.heap.size w w') : NestV lo hi w' a n V := fun hn => by
  obtain ⟨g0, G, e, h1, h2, h3, h4, h5⟩ := h hn
  exact ⟨g0, G, e, h1, h2, h3.below k, fun j hj => ⟨(h4 j hj).1, (h4 j hj).2.1, (h4 j hj).2.2.1, (h4 j hj).2.2.2.below k⟩, h5⟩
theorem NestV.keep (h : NestV lo hi w a n V) (k : Keep lo' hi' w w') (hd : hi ≤ lo' ∨ hi' ≤ lo) : NestV lo hi w' a n V := fun hn => by
  obtain ⟨g0, G, e, h1, h2, h3, h4, h5⟩ := h hn
  exact ⟨g0, G, e, h1, h2, h3.keep k (by omega), fun j hj => ⟨(h4 j hj).1, (h4 j hj).2.1, (h4 j hj).2.2.1, (h4 j hj).2.2.2.keep k (by have := (h4 j hj).1; have := (h4 j hj).2.1; omega)⟩, h5⟩
theorem NestV.cells (h : NestV lo hi w a n V) : NestV lo hi w a n V := h
theorem NestV.mono (h : NestV lo hi w a n V) (e1 : lo' ≤ lo) (e2 : hi ≤ hi') : NestV lo' hi' w a n V := fun hn => by
  obtain ⟨g0, G, e, h1, h2, h3, h4, h5⟩ := h hn
  exact ⟨g0, G, e, by omega, by omega, h3, fun j hj => by obtain ⟨a, b, c, d⟩ := h4 j hj; exact ⟨by omega, by omega, c, d⟩, h5⟩
end
theorem laws_eqInt64SS_in {lo hi lo' hi' : Nat} (a a' : Option Addr) (n c c' : Nat) (P : Nat → Int × Int) (w : World) (h : NestV lo hi w a n (fun j => prV (P j))) (h' : NestV lo' hi' w a' n (fun j => prV (P j))) (hn : n ≤ 1048576) :
    Calls Try.prog 10 #[.slice a n c, .slice a' n c'] w fun e w' => e = .returned (.bool true) ∧ Below w.heap.size w w' := by
  go_enter Try.func10, Try.ntmps10
  go_wp2
  go_loopw [5] (fun i wr => ∃ k : Nat, k ≤ n ∧ i = .int .i64 k ∧ Below w.heap.size w wr) (fun i _ => n - (intOf i).toNat)
  case atStart => exact ⟨0, by omega, rfl, Below.refl _ _⟩
  case round =>
    obtain ⟨k, hk, rfl, hB⟩ := hrel
    have hq := hB.size
    by_cases hlt : k < n
    · obtain ⟨g0, G, rfl, _, _, ho, hin, _⟩ := h (by omega)
      obtain ⟨g1, G1, rfl, _, _, ho1, hin1, _⟩ := h' (by omega)
      have b0 := ho.block (by omega)
      have b1 := ho1.block (by omega)
      have c0 := (hB.cell (p := ⟨g0, k, none⟩) b0).trans (ho.at hlt)
      have c1 := (hB.cell (p := ⟨g1, k, none⟩) b1).trans (ho1.at hlt)
      have b0' : g0 < wr.heap.size := by omega
      have b1' : g1 < wr.heap.size := by omega
      have e0 : CellsIn (G k) (G k + 1) w (some ⟨G k, 0, none⟩) 2 (fun j => .int .i64 (if j = 0 then (P k).1 else (P k).2)) := (hin k hlt).2.2.2.cells.cong (fun j hj => by show prV (P k) j = _; unfold prV; split <;> rfl)
      have e1 : CellsIn (G1 k) (G1 k + 1) w (some ⟨G1 k, 0, none⟩) 2 (fun j => .int .i64 (if j = 0 then (P k).1 else (P k).2)) := (hin1 k hlt).2.2.2.cells.cong (fun j hj => by show prV (P k) j = _; unfold prV; split <;> rfl)
      have ke := fun W (hW : Below w.heap.size w W) => laws_eqInt64S_in (some ⟨G k, 0, none⟩) (some ⟨G1 k, 0, none⟩) 2 2 2 _ W (e0.below hW) (e1.below hW) (by omega)
      have i0 : (0 : Int) ≤ (k : Int) := by omega
      have i1 : (k : Int) < (n : Int) := by omega
      clear ho ho1 hin hin1 e0 e1
      go_wp2
      (refine wp_region_cls (by kernel_rfl) (by kernel_rfl) ?_; (repeat (go_big_quiet_step ((go_at_call 18; exact cls_B ((ke _ (hB.trans ((Cls.below _).mono hq)))))))); refine wpQuiet_nil ?_; rintro _ ⟨u, rfl⟩; have hb := u.below; replace hB := hB.trans (hb.mono hB.size); generalize u.w = w' at *; obtain ⟨hc, hf, hs⟩ := bkeep hb; have hq' := hb.size; have hq := hB.size; have hb' := hb; clear hb)
      go_wp2
      go_roundw
      case rel => exact ⟨k + 1, by omega, by go_num, hB⟩
      case measure => simp [intOf]; omega
    · obtain rfl : k = n := by omega
      go_wp2
      go_ret
      exact ⟨rfl, hB⟩
theorem laws_markInt64SS {lo hi : Nat} (a : Option Addr) (n c : Nat) (V : Nat → Nat → Value) (k : Int) (w : World) (hz : NestV lo hi w a n V) (hn : n ≤ 1048576) (h0 : 0 ≤ k) (h1 : k ≤ 100000000) :
    Calls Try.prog 13 #[.slice a n c, .int .i64 k] w fun e w' => e = .returned (.int .i64 (k + 2 * n)) ∧ NestV lo hi w' a n (fun j => marksFrom (k + 2 * j)) ∧ Keep lo hi w w' := by
  go_enter Try.func13, Try.ntmps13
  go_wp2
  go_loopw [1, 5] (fun x i wr => ∃ m : Nat, m ≤ n ∧ i = .int .i64 m ∧ x = .int .i64 (k + 2 * m) ∧ NestV lo hi wr a n (fun j => if j < m then marksFrom (k + 2 * j) else V j) ∧ Keep lo hi w wr) (fun _ i _ => n - (intOf i).toNat)
  case atStart => exact ⟨0, by omega, rfl, by simp, by simpa using hz, Keep.refl _ _ _⟩
  case round =>
    obtain ⟨m, hm, rfl, rfl, hO, hG⟩ := hrel
    by_cases hlt : m < n
    · obtain ⟨g0, G, rfl, p1, p2, ho, hin, hne⟩ := hO (by omega)
      have b0 := ho.block (by omega)
      have c0 := ho.at hlt
      obtain ⟨q1, q2, q3, hm1⟩ := hin m hlt
      have HO := Lib.hid ho
      have HI := Lib.hid hin
      have hm2 := hm1
      clear ho hin hm1 hO
      go_wp2_with (go_at_call 42; (with_reducible refine (laws_markInt64S _ 2 2 _ _ _ hm2 (by omega) (by omega) (by omega)).mono ?_); rintro e w2 ⟨rfl, hO2, hK2⟩)
      go_roundw
      case rel =>
        refine ⟨m + 1, by omega, by go_num, by congr 1; omega, fun _ => ⟨g0, G, rfl, p1, p2, HO.out.keep hK2 (by omega), fun j hj => ?_, hne⟩, hG.trans ⟨hK2.os, hK2.tape, hK2.output, hK2.size, fun x hx hxn => hK2.block x hx (by omega)⟩⟩
        obtain ⟨r1, r2, r3, r4⟩ := HI.out j hj
        refine ⟨r1, r2, r3, ?_⟩
        dsimp only at r4 ⊢
        by_cases hjm : j = m
        · subst hjm
          rw [if_pos (by omega)]
          exact hO2
        · have hd : G j ≠ G m := fun e => hjm (hne j m hj hlt e)
          have := r4.keep hK2 (by omega)
          by_cases h2 : j < m
          · rw [if_pos h2] at this; rw [if_pos (by omega)]; exact this
          · rw [if_neg h2] at this; rw [if_neg (by omega)]; exact this
      case measure => simp [intOf]; omega
    · obtain rfl : m = n := by omega
      go_wp2
      go_ret
      refine ⟨rfl, fun hp => ?_, hG⟩
      obtain ⟨g0, G, e, p1, p2, ho, hin, hne⟩ := hO hp
      refine ⟨g0, G, e, p1, p2, ho, fun j hj => ?_, hne⟩
      have := hin j hj
      dsimp only at this
      rw [if_pos hj] at this
      exact this
theorem laws_heldInt64SS {lo hi : Nat} (a : Option Addr) (n c : Nat) (k : Int) (w : World) (hz : NestV lo hi w a n (fun j => marksFrom (k + 2 * j))) (hn : n ≤ 1048576) (h0 : 0 ≤ k) (h1 : k ≤ 100000000) :
    Calls Try.prog 14 #[.slice a n c, .int .i64 k] w fun e w' => e = .returned (.int .i64 (k + 2 * n)) ∧ w = w' := by
  go_enter Try.func14, Try.ntmps14
  go_wp2
  go_loop [1, 5] (fun x i => ∃ m : Nat, m ≤ n ∧ i = .int .i64 m ∧ x = .int .i64 (k + 2 * m)) (fun _ i => n - (intOf i).toNat)
  case atStart => exact ⟨0, by omega, rfl, by simp⟩
  case round =>
    obtain ⟨m, hm, rfl, rfl⟩ := hrel
    by_cases hlt : m < n
    · obtain ⟨g0, G, rfl, p1, p2, ho, hin, hne⟩ := hz (by omega)
      have b0 := ho.block (by omega)
      have c0 := ho.at hlt
      have hm2 := (hin m hlt).2.2.2.cells
      have n0 : ¬ (k + 2 * (m : Int) + 2 < 0) := by omega
      clear ho hin
      go_wp2_with (go_at_call 43; (with_reducible refine (laws_heldInt64S _ 2 2 _ _ hm2 (by omega) (by omega) (by omega)).mono ?_); rintro e w2 ⟨rfl, rfl⟩)
      go_round
      case rel => exact ⟨m + 1, by omega, by go_num, by congr 1; omega⟩
      case measure => simp [intOf]; omega
    · obtain rfl : m = n := by omega
      go_wp2
      go_ret
      exact ⟨rfl, rfl⟩

end Go.Proofs.Ytngeaojimehlbaa
