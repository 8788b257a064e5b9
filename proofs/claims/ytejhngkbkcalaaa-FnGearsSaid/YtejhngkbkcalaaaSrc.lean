/-
  Contracts: numbers drawn from bytes: some number in its bounds.
-/
import Derived.Test.YtejhngkbkcalaaaM1
import Derived.LoopTactic
import Derived.Lib.Hide
import Derived.BigRegion
namespace Go.Proofs.Ytejhngkbkcalaaa
open Go.RowKit
set_option linter.unusedVariables false
set_option linter.unusedSimpArgs false

/-- The slice's first n cells are bytes. -/
def BytesAt (w : World) (a : Option Addr) (n : Nat) : Prop := 0 < n → ∃ b o, a = some ⟨b, o, none⟩ ∧ b < w.heap.size ∧ ∀ j, j < n → ∃ z : Int, 0 ≤ z ∧ z ≤ 255 ∧ w.cell? ⟨b, o + j, none⟩ = some (.int .u8 z)
theorem BytesAt.below {w w' : World} {a : Option Addr} {n : Nat} (h : BytesAt w a n) (k : Below w.heap.size w w') : BytesAt w' a n := fun hn => by
  obtain ⟨b, o, e, hb, hc⟩ := h hn
  refine ⟨b, o, e, Nat.lt_of_lt_of_le hb k.size, fun j hj => ?_⟩
  obtain ⟨z, z0, z1, hz⟩ := hc j hj
  exact ⟨z, z0, z1, (k.cell (p := ⟨b, o + j, none⟩) hb).trans hz⟩
theorem BytesAt.keep {lo hi : Nat} {w w' : World} {a : Option Addr} {n : Nat} (h : BytesAt w a n) (k : Keep lo hi w w') (hd : 0 < n → ∀ b o, a = some ⟨b, o, none⟩ → ¬ (lo ≤ b ∧ b < hi)) : BytesAt w' a n := fun hn => by
  obtain ⟨b, o, e, hb, hc⟩ := h hn
  refine ⟨b, o, e, Nat.lt_of_lt_of_le hb k.size, fun j hj => ?_⟩
  obtain ⟨z, z0, z1, hz⟩ := hc j hj
  exact ⟨z, z0, z1, (World.cell?_of_block (a := ⟨b, o + j, none⟩) (k.block b hb (hd hn b o e))).trans hz⟩
/-- Block g is a source of numbers that has given A of them. -/
structure SrcAt (w : World) (g : Nat) (A : Int) : Prop where
  pos : 0 ≤ A
  lt : g < w.heap.size
  c1 : w.cell? ⟨g, 1, none⟩ = some (.int .i64 A)
  f1 : w.frozen? ⟨g, 1, none⟩ = false
  f2 : w.frozen? ⟨g, 2, none⟩ = false
  c2 : ∃ S : Int, w.cell? ⟨g, 2, none⟩ = some (.int .u64 S)
  code : ∃ a n c, w.cell? ⟨g, 0, none⟩ = some (.slice a n c) ∧ n ≤ 1048576 ∧ BytesAt w a n ∧ (0 < n → ∀ b o, a = some ⟨b, o, none⟩ → b < g)
theorem SrcAt.below {w w' : World} {g : Nat} {A : Int} (h : SrcAt w g A) (k : Below w.heap.size w w') : SrcAt w' g A := by
  obtain ⟨h0, h1, h2, h3, h4, ⟨S, h5⟩, a, n, c, h6, h7, h8, h9⟩ := h
  exact ⟨h0, Nat.lt_of_lt_of_le h1 k.size, (k.cell (p := ⟨g, 1, none⟩) h1).trans h2, (k.frozen (p := ⟨g, 1, none⟩) h1).trans h3, (k.frozen (p := ⟨g, 2, none⟩) h1).trans h4, ⟨S, (k.cell (p := ⟨g, 2, none⟩) h1).trans h5⟩, a, n, c, (k.cell (p := ⟨g, 0, none⟩) h1).trans h6, h7, h8.below k, h9⟩
theorem SrcAt.set {w : World} {g : Nat} {A : Int} (h : SrcAt w g A) (S : Int) : SrcAt ((w.setCell ⟨g, 1, none⟩ (.int .i64 (A + 1))).setCell ⟨g, 2, none⟩ (.int .u64 S)) g (A + 1) := by
  obtain ⟨h0, h1, h2, h3, h4, ⟨S0, h5⟩, a, n, c, h6, h7, h8, h9⟩ := h
  refine ⟨by omega, lt_set (lt_set h1), cell_off (cell_same h2) (by decide), by simpa using h3, by simpa using h4, ⟨S, cell_same (cell_off h5 (by decide))⟩, a, n, c, cell_off (cell_off h6 (by decide)) (by decide), h7, ?_, h9⟩
  exact h8.keep ((((Keep.refl g (g + 1) w).set (Nat.le_refl _) (Nat.lt_succ_self _))).set (Nat.le_refl _) (Nat.lt_succ_self _)) (fun hn b o e hh => by have := h9 hn b o e; omega)
/-- A store into a block behind the source's own. -/
theorem SrcAt.setUp {w : World} {g b j : Nat} {A : Int} {u : Value} (h : SrcAt w g A) (hb : g < b) : SrcAt (w.setCell ⟨b, j, none⟩ u) g A := by
  obtain ⟨h0, h1, h2, h3, h4, ⟨S, h5⟩, a, n, c, h6, h7, h8, h9⟩ := h
  refine ⟨h0, lt_set h1, cell_far h2 (by omega), by simpa using h3, by simpa using h4, ⟨S, cell_far h5 (by omega)⟩, a, n, c, cell_far h6 (by omega), h7, ?_, h9⟩
  exact h8.keep ((Keep.refl b (b + 1) w).set (Nat.le_refl _) (Nat.lt_succ_self _)) (fun hn b' o e hh => by have := h9 hn b' o e; omega)
theorem SrcAt.drew {w : World} {g : Nat} {A : Int} (h : SrcAt w g A) : SrcAt w.drew g A := h.below (Below.drew (Below.refl _ _))
theorem and255 (X : Int) : 0 ≤ bits .and .u64 X 255 ∧ bits .and .u64 X 255 ≤ 255 := by
  have h : (BitVec.ofInt 64 X &&& BitVec.ofInt 64 255).toNat ≤ 255 := by
    rw [BitVec.toNat_and]
    exact Nat.le_trans Nat.and_le_right (by decide)
  have e : bits .and .u64 X 255 = IntKind.u64.wrap ((BitVec.ofInt 64 X &&& BitVec.ofInt 64 255).toNat : Int) := rfl
  rw [e]
  generalize (BitVec.ofInt 64 X &&& BitVec.ofInt 64 255).toNat = n at *
  unfold IntKind.wrap
  simp [IntKind.signed, IntKind.bits]
  omega
theorem wrap255 (X : Int) : 0 ≤ wrap64 (bits .and .u64 X 255) ∧ wrap64 (bits .and .u64 X 255) ≤ 255 := by
  have := and255 X
  generalize bits .and .u64 X 255 = v at *
  unfold wrap64
  omega
theorem keep2 (w : World) (g : Nat) (u v : Value) : Keep g (g + 1) w ((w.setCell ⟨g, 1, none⟩ u).setCell ⟨g, 2, none⟩ v) :=
  ((Keep.refl g (g + 1) w).set (Nat.le_refl _) (Nat.lt_succ_self _)).set (Nat.le_refl _) (Nat.lt_succ_self _)

set_option maxHeartbeats 2000000 in
theorem spec_next (g : Nat) (A : Int) (w : World) (h : SrcAt w g A) (hA : A ≤ 1000000000) :
    Calls Try.prog 50 #[.pointer (some ⟨g, 0, none⟩)] w fun e w' => ∃ v, e = .returned (.int .i64 v) ∧ 0 ≤ v ∧ v ≤ 255 ∧ SrcAt w' g (A + 1) ∧ Keep g (g + 1) w w' := by
  have H := Lib.hid h
  obtain ⟨h0, h1, h2, h3, h4, ⟨S, h5⟩, a, n, c, h6, h7, h8, h9⟩ := h
  by_cases hlt : A < n
  · obtain ⟨k, rfl⟩ : ∃ k : Nat, A = k := ⟨A.toNat, by omega⟩
    obtain ⟨b, o, rfl, hb, hc⟩ := h8 (by omega)
    obtain ⟨z, z0, z1, hz⟩ := hc k (by omega)
    have hbg : b ≠ g := Nat.ne_of_lt (h9 (by omega) b o rfl)
    clear hc h8 h9
    go_enter Try.func50, Try.ntmps50
    go_wp2
    go_region
    go_wp2
    go_region
    go_wp2
    go_region
    go_wp2
    go_returns
    exact ⟨_, rfl, z0, z1, by repeat (first | exact H.out.set _ | refine SrcAt.drew ?_), by repeat (first | exact keep2 _ _ _ _ | refine Keep.drew ?_)⟩
  · clear h8 h9
    go_enter Try.func50, Try.ntmps50
    go_wp2
    go_region
    go_wp2
    go_region
    go_wp2
    go_returns
    exact ⟨_, rfl, (wrap255 _).1, (wrap255 _).2, by repeat (first | exact H.out.set _ | refine SrcAt.drew ?_), by repeat (first | exact keep2 _ _ _ _ | refine Keep.drew ?_)⟩

set_option maxHeartbeats 1000000 in
theorem spec_pick (g : Nat) (A n : Int) (w : World) (h : SrcAt w g A) (hA : A ≤ 1000000) (hn : n ≤ 65536) :
    Calls Try.prog 19 #[.pointer (some ⟨g, 0, none⟩), .int .i64 n] w fun e w' => ∃ v A', e = .returned (.int .i64 v) ∧ 0 ≤ v ∧ (1 ≤ n → v < n) ∧ A ≤ A' ∧ A' ≤ A + 2 ∧ SrcAt w' g A' ∧ Keep g (g + 1) w w' := by
  have H := Lib.hid h
  have hg := h.lt
  have kn := fun A W h hA => spec_next g A W h hA
  clear h
  by_cases h1 : n ≤ 1
  · go_enter Try.func19, Try.ntmps19
    go_wp2
    go_returns
    exact ⟨0, A, rfl, by omega, by omega, by omega, by omega, H.out, Keep.refl _ _ _⟩
  · by_cases h2 : 200 < n
    · go_enter Try.func19, Try.ntmps19
      go_wp2_with fail
      refine (kn A _ H.out (by omega)).mono ?_
      rintro e w1 ⟨x, rfl, x0, x1, H1, K1⟩
      have HH := Lib.hid H1
      clear H1
      go_wp2_with fail
      refine (kn (A + 1) _ HH.out (by omega)).mono ?_
      rintro e w2 ⟨y, rfl, y0, y1, H2, K2⟩
      have HH2 := Lib.hid H2
      clear H2
      have n0 : ¬ n = 0 := by omega
      go_wp2
      go_returns
      refine ⟨_, A + 1 + 1, rfl, ?_, fun _ => ?_, by omega, by omega, HH2.out, K1.trans K2⟩
      all_goals first | exact Int.emod_nonneg _ (by omega) | exact Int.emod_lt_of_pos _ (by omega) | (rw [Int.tmod_eq_emod_of_nonneg (by omega)]; first | exact Int.emod_nonneg _ (by omega) | exact Int.emod_lt_of_pos _ (by omega))
    · go_enter Try.func19, Try.ntmps19
      go_wp2_with fail
      refine (kn A _ H.out (by omega)).mono ?_
      rintro e w1 ⟨x, rfl, x0, x1, H1, K1⟩
      have HH := Lib.hid H1
      clear H1
      have n0 : ¬ n = 0 := by omega
      go_wp2
      go_returns
      refine ⟨_, A + 1, rfl, ?_, fun _ => ?_, by omega, by omega, HH.out, K1⟩
      all_goals first | exact Int.emod_nonneg _ (by omega) | exact Int.emod_lt_of_pos _ (by omega) | (rw [Int.tmod_eq_emod_of_nonneg (by omega)]; first | exact Int.emod_nonneg _ (by omega) | exact Int.emod_lt_of_pos _ (by omega))

theorem spec_one (g : Nat) (A n : Int) (w : World) (h : SrcAt w g A) (hA : A ≤ 1000000) (hn : n ≤ 65536) :
    Calls Try.prog 38 #[.pointer (some ⟨g, 0, none⟩), .int .i64 n] w fun e w' => ∃ v A', e = .returned (.bool v) ∧ A ≤ A' ∧ A' ≤ A + 2 ∧ SrcAt w' g A' ∧ Keep g (g + 1) w w' := by
  have kp := spec_pick g A n w h hA hn
  have hg := h.lt
  clear h
  go_enter Try.func38, Try.ntmps38
  go_wp2_with fail
  refine kp.mono ?_
  rintro e w1 ⟨x, A1, rfl, x0, x1, a0, a1, H1, K1⟩
  have HH := Lib.hid H1
  clear H1
  go_wp2
  go_returns
  exact ⟨_, A1, rfl, a0, a1, HH.out, K1⟩

theorem spec_l00From (a : Option Addr) (n c : Nat) (w : World) (h : BytesAt w a n) (hn : n ≤ 1048576) :
    Calls Try.prog 17 #[.slice a n c] w fun e w' => ∃ g, e = .returned (.pointer (some ⟨g, 0, none⟩)) ∧ w.heap.size ≤ g ∧ SrcAt w' g 0 ∧ Below w.heap.size w w' := by
  have H := Lib.hid h
  clear h
  go_enter Try.func17, Try.ntmps17
  go_wp2
  go_returns
  have hb : ∀ O, Below w.heap.size w (w.alloc O) := fun O => Below.alloc (Below.refl _ _) (Nat.le_refl _) _
  refine ⟨w.heap.size, rfl, Nat.le_refl _, ⟨by omega, by simp, by go_cell, by go_simp, by go_simp, ⟨0, by go_cell⟩, a, n, c, by go_cell, hn, H.out.below (hb _), fun hn b o e => ?_⟩, hb _⟩
  obtain ⟨b', o', e', hlt, _⟩ := H.out hn
  rw [e'] at e
  injection e with e; injection e with e1
  omega

end Go.Proofs.Ytejhngkbkcalaaa
