/-
  Contracts: the reference's grade of a place, and the way on a track.
-/
import Derived.Test.YtcnnhklbilcbaaaKE3
namespace Go.Proofs.Ytcnnhklbilcbaaa
open Go.RowKit
set_option linter.unusedVariables false
set_option linter.unusedSimpArgs false

def secF (L : Nat → Int) (n : Nat) : Nat → Nat → Int → Nat
  | 0, k, _ => k
  | f + 1, k, x => if k + 1 < n ∧ L k ≤ x then secF L n f (k + 1) (x - L k) else k
theorem secF_lt {L : Nat → Int} {n : Nat} : ∀ (f k : Nat) (x : Int), k < n → secF L n f k x < n := by
  intro f
  induction f with
  | zero => intro k x h; exact h
  | succ f ih =>
    intro k x h
    unfold secF
    split
    · exact ih _ _ (by omega)
    · exact h
theorem secF_stop {L : Nat → Int} {n f k : Nat} {x : Int} (h : ¬ (k + 1 < n ∧ L k ≤ x)) : secF L n f k x = k := by
  cases f with
  | zero => rfl
  | succ f => unfold secF; rw [if_neg h]
theorem secF_next {L : Nat → Int} {n f k : Nat} {x : Int} (h : k + 1 < n ∧ L k ≤ x) : secF L n (f + 1) k x = secF L n f (k + 1) (x - L k) := by
  conv => lhs; unfold secF
  rw [if_pos h]

set_option maxHeartbeats 1000000 in
theorem spec_l03Section (g q : Nat) (a : Option Addr) (n c : Nat) (L G : Nat → Int) (x : Int) (w : World) (t0 : w.cell? ⟨g, q, none⟩ = some (.slice a n c)) (hP : PassAt w a n L G) (hn0 : 1 ≤ n) (hn : n ≤ 12) (hL : ∀ k, k < n → 1 ≤ L k ∧ L k ≤ 3000000) (hx0 : 0 ≤ x) (hx1 : x ≤ 3000000) :
    Calls Try.prog 68 #[.pointer (some ⟨g, q, none⟩), .int .i64 x] w fun e w' => e = .returned (.int .i64 (secF L n n 0 x)) ∧ w = w' := by
  obtain ⟨b, o, rfl, hb, hc⟩ := hP (by omega)
  have HC := Lib.hid hc
  have HL := Lib.hid hL
  generalize hR : secF L n n 0 x = R at *
  have HR := Lib.hid hR
  clear hc hL hR
  go_enter Try.func68, Try.ntmps68
  go_wp2
  go_loop [1, 5] (fun y i => ∃ (k f : Nat) (z : Int), k < n ∧ i = .int .i64 k ∧ y = .int .i64 z ∧ 0 ≤ z ∧ z ≤ 3000000 ∧ n ≤ k + f ∧ secF L n f k z = R) (fun _ i => n - (intOf i).toNat)
  case atStart => exact ⟨0, n, x, by omega, rfl, rfl, hx0, hx1, by omega, HR.out⟩
  case round =>
    clear HR
    obtain ⟨k, f, z, hk, rfl, rfl, hz0, hz1, hkf, hf⟩ := hrel
    have HF := Lib.hid hf
    clear hf
    obtain ⟨c0, c1⟩ := HC.out k hk
    have hl := HL.out k hk
    have i0 : (0 : Int) ≤ (k : Int) := by omega
    have i1 : (k : Int) < (n : Int) := by omega
    by_cases h1 : k + 1 < n
    · have h1' : (k : Int) < (n : Int) - 1 := by omega
      by_cases h2 : L k ≤ z
      · obtain ⟨f, rfl⟩ : ∃ f', f = f' + 1 := ⟨f - 1, by omega⟩
        have E := Lib.hid ((secF_next (f := f) ⟨h1, h2⟩).symm.trans HF.out)
        go_wp2
        go_round
        case rel => exact ⟨k + 1, f, z - L k, h1, by go_num, rfl, by omega, by omega, by omega, E.out⟩
        case measure => simp [intOf]; omega
      · have E := Lib.hid (HF.out.symm.trans (secF_stop (fun h => h2 h.2)))
        go_wp2
        go_ret
        exact ⟨by rw [E.out]; rfl, rfl⟩
    · have h1' : ¬ (k : Int) < (n : Int) - 1 := by omega
      have E := Lib.hid (HF.out.symm.trans (secF_stop (fun h => h1 h.1)))
      go_wp2
      go_ret
      exact ⟨by rw [E.out]; rfl, rfl⟩

set_option maxHeartbeats 1000000 in
theorem spec_l03Grade (g q : Nat) (a : Option Addr) (n c : Nat) (L G : Nat → Int) (x : Int) (w : World) (t0 : w.cell? ⟨g, q, none⟩ = some (.slice a n c)) (hP : PassAt w a n L G) (hn0 : 1 ≤ n) (hn : n ≤ 12) (hL : ∀ k, k < n → 1 ≤ L k ∧ L k ≤ 3000000) (hx0 : 0 ≤ x) (hx1 : x ≤ 3000000) :
    Calls Try.prog 66 #[.pointer (some ⟨g, q, none⟩), .int .i64 x] w fun e w' => e = .returned (.int .i64 (G (secF L n n 0 x))) ∧ Below w.heap.size w w' := by
  have kS := fun W h h' => spec_l03Section g q a n c L G x W h h' hn0 hn hL hx0 hx1
  have hs : secF L n n 0 x < n := secF_lt _ _ _ (by omega)
  generalize secF L n n 0 x = s at *
  have hP2 := hP
  obtain ⟨b, o, rfl, hb, hc⟩ := hP2 (by omega)
  obtain ⟨c0, c1⟩ := hc s hs
  have hg1 : g < w.heap.size := World.block_lt_of_cell? w _ t0
  have i0 : (0 : Int) ≤ (s : Int) := by omega
  have i1 : (s : Int) < (n : Int) := by omega
  have hB := Below.refl w.heap.size w
  clear hc
  go_enter Try.func66, Try.ntmps66
  go_wp2
  (refine wp_region_cls (by kernel_rfl) (by kernel_rfl) ?_; (repeat (go_big_quiet_step ((go_at_call 68; exact cls_S (kS _ ((cls_cell _ _ _ _ hg1).trans t0) (hP.below (Cls.below _))))))); refine wpQuiet_nil ?_; rintro _ ⟨u, rfl⟩; have hb := u.below; replace hB := hB.trans (hb.mono hB.size); generalize u.w = w' at *; obtain ⟨hc, hf, hs⟩ := bkeep hb; have hq' := hb.size; have hq := hB.size; have hb' := hb; clear hb)
  go_wp2
  go_returns
  exact ⟨rfl, hB⟩

end Go.Proofs.Ytcnnhklbilcbaaa
