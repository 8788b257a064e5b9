/-
  Contracts: the way on a track in the reference.
-/
import Derived.Test.YtcnnhklbilcbaaaKF3
namespace Go.Proofs.Ytcnnhklbilcbaaa
open Go.RowKit
set_option linter.unusedVariables false
set_option linter.unusedSimpArgs false

theorem worstF_in {G : Nat → Int} {n : Nat} {down : Bool} (hn : 1 ≤ n) : ∃ k, k < n ∧ worstF G (G 0) down n = G k := by
  cases down
  · rcases (worstF_false (G := G) (g0 := G 0) (n := n)).2.2 with h | h
    · exact ⟨0, by omega, h⟩
    · exact h
  · rcases (worstF_true (G := G) (g0 := G 0) (n := n)).2.2 with h | h
    · exact ⟨0, by omega, h⟩
    · exact h
/-- The way from a speed on a grade; -1 if there is none. -/
def onV (d f s g : Int) (down : Bool) : Int := if forceV f g down ≤ 0 then -1 else wayV d (forceV f g down) s

set_option maxHeartbeats 2000000 in
theorem spec_l11On (g q : Nat) (a : Option Addr) (n c : Nat) (L G : Nat → Int) (bb bo : Nat) (d f x s : Int) (down : Bool) (w : World) (t0 : w.cell? ⟨g, q, none⟩ = some (.slice a n c)) (hP : PassAt w a n L G)
    (b0 : w.cell? ⟨bb, bo, none⟩ = some (.int .i64 d)) (b1 : w.cell? ⟨bb, bo + 1, none⟩ = some (.int .i64 f))
    (hn0 : 1 ≤ n) (hn : n ≤ 12) (hL : ∀ k, k < n → 1 ≤ L k ∧ L k ≤ 3000000) (hG : ∀ k, k < n → 0 ≤ G k ∧ G k ≤ 900) (hx0 : 0 ≤ x) (hx1 : x ≤ 3000000)
    (h1 : 1 ≤ f) (h2 : f ≤ 10000) (h5 : 0 ≤ d) (h6 : d ≤ 100) (h7 : 0 ≤ s) (h8 : s ≤ 15000) :
    Calls Try.prog 57 #[.pointer (some ⟨g, q, none⟩), .pointer (some ⟨bb, bo, none⟩), .int .i64 x, .int .i64 s, .bool down] w fun e w' => e = .returned (.int .i64 (onV d f s (worstF G (G 0) down n) down)) ∧ Below w.heap.size w w' := by
  have kg := fun W h h' => spec_l03Grade g q a n c L G x W h h' hn0 hn hL hx0 hx1
  have hs : secF L n n 0 x < n := secF_lt _ _ _ (by omega)
  generalize secF L n n 0 x = z at *
  have HW := Lib.hid (worstF_any (G := G) (down := down) hs)
  obtain ⟨j0, hj, hjj⟩ := worstF_in (G := G) (down := down) hn0
  have hgj := hG j0 hj
  rw [← hjj] at hgj
  have kw := fun W c0 c1 c2 => spec_l11Way bb bo d f s (worstF G (G 0) down n) down W h1 h2 hgj.1 hgj.2 h5 h6 h7 h8 c0 c1 c2
  rw [show (if forceV f (worstF G (G 0) down n) down ≤ 0 then -1 else wayV d (forceV f (worstF G (G 0) down n) down) s) = onV d f s (worstF G (G 0) down n) down from rfl] at kw
  generalize onV d f s (worstF G (G 0) down n) down = V at kw ⊢
  clear hjj hgj hj
  have hP2 := hP
  obtain ⟨b, o, rfl, hb, hc⟩ := hP2 (by omega)
  have HC := Lib.hid hc
  have hg1 : g < w.heap.size := World.block_lt_of_cell? w _ t0
  have hb1 : bb < w.heap.size := World.block_lt_of_cell? w _ b0
  clear hc hG hL
  go_enter Try.func57, Try.ntmps57
  go_wp2_with fail
  refine (kg _ t0 hP).mono ?_
  rintro e' w1 ⟨rfl, hB1⟩
  replace t0 := (hB1.cell (p := ⟨g, q, none⟩) hg1).trans t0
  replace b0 := (hB1.cell (p := ⟨bb, bo, none⟩) hb1).trans b0
  replace b1 := (hB1.cell (p := ⟨bb, bo + 1, none⟩) hb1).trans b1
  have hg2 := Nat.lt_of_lt_of_le hg1 hB1.size
  have hb2 := Nat.lt_of_lt_of_le hb1 hB1.size
  clear kg
  go_wp2
  go_loop [11, 12] (fun y i => ∃ k : Nat, k ≤ n ∧ i = .int .i64 k ∧ y = .int .i64 (worstF G (G z) down k)) (fun _ i => n - (intOf i).toNat)
  case atStart => exact ⟨0, by omega, rfl, rfl⟩
  case round =>
    obtain ⟨k, hk, rfl, rfl⟩ := hrel
    by_cases hlt : k < n
    · obtain ⟨c0, c1⟩ := HC.out k hlt
      replace c1 := (hB1.cell (p := ⟨b, o + k * 2 + 1, none⟩) hb).trans c1
      have E := Lib.hid (show worstF G (G z) down (k + 1) = if down = true then max (worstF G (G z) down k) (G k) else min (worstF G (G z) down k) (G k) from rfl)
      generalize worstF G (G z) down k = y at *
      have kM := fun W => spec_l00Max y (G k) W
      have km := fun W => spec_l00Min y (G k) W
      clear c0
      cases down
      all_goals
        go_wp2_with (first | (go_at_call 63; (with_reducible refine (kM _).mono ?_); rintro e w' ⟨rfl, rfl⟩) | (go_at_call 64; (with_reducible refine (km _).mono ?_); rintro e w' ⟨rfl, rfl⟩))
        go_round
        case rel => exact ⟨k + 1, by omega, by go_num, by rw [E.out]; rfl⟩
        case measure => simp [intOf]; omega
    · obtain rfl : k = n := by omega
      rw [HW.out]
      generalize worstF G (G 0) down k = y at *
      go_wp2_with (go_at_call 25; (with_reducible refine (kw _ b0 b1 hb2).mono ?_); rintro e' w2 ⟨rfl, hB2⟩)
      go_ret
      exact ⟨rfl, hB1.trans (hB2.mono hB1.size)⟩

end Go.Proofs.Ytcnnhklbilcbaaa
