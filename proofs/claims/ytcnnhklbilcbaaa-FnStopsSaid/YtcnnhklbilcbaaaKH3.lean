/-
  Contracts: the code of a track, a brake, a place and a speed.
-/
import Derived.Test.YtcnnhklbilcbaaaKG3
namespace Go.Proofs.Ytcnnhklbilcbaaa
open Go.RowKit
set_option linter.unusedVariables false
set_option linter.unusedSimpArgs false

def tbC (L G : Nat → Int) (n : Nat) (lf lu d f x s : Int) : Int :=
  if (trackOk L G n lf lu && validBrake d f) = true then (if (inB x 0 (lenT L n) && inB s 0 15000) = true then 0 else 2) else 1
section
variable {L G : Nat → Int} {n : Nat} {lf lu d f x s : Int}
theorem tb_1a (h : trackOk L G n lf lu = false) : tbC L G n lf lu d f x s = 1 := by unfold tbC; rw [h]; rfl
theorem tb_1b (h : trackOk L G n lf lu = true) (h2 : validBrake d f = false) : tbC L G n lf lu d f x s = 1 := by unfold tbC; rw [h, h2]; rfl
theorem tb_2a (h : trackOk L G n lf lu = true) (h2 : validBrake d f = true) (h3 : inB x 0 (lenT L n) = false) : tbC L G n lf lu d f x s = 2 := by unfold tbC; rw [h, h2, h3]; rfl
theorem tb_2b (h : trackOk L G n lf lu = true) (h2 : validBrake d f = true) (h3 : inB x 0 (lenT L n) = true) (h4 : inB s 0 15000 = false) : tbC L G n lf lu d f x s = 2 := by unfold tbC; rw [h, h2, h3, h4]; rfl
theorem tb_0 (h : trackOk L G n lf lu = true) (h2 : validBrake d f = true) (h3 : inB x 0 (lenT L n) = true) (h4 : inB s 0 15000 = true) : tbC L G n lf lu d f x s = 0 := by unfold tbC; rw [h, h2, h3, h4]; rfl
end

theorem spec_l03Place (g q : Nat) (a : Option Addr) (n c : Nat) (L G : Nat → Int) (x : Int) (w : World) (t0 : w.cell? ⟨g, q, none⟩ = some (.slice a n c)) (hP : PassAt w a n L G) (hn : n ≤ 12) (hL : ∀ k, k < n → 1 ≤ L k ∧ L k ≤ 3000000) :
    Calls Try.prog 56 #[.pointer (some ⟨g, q, none⟩), .int .i64 x] w fun e w' => e = .returned (.bool (inB x 0 (lenT L n))) ∧ w = w' := by
  have kl := fun W h h' => spec_l03Length g q a n c L G W h h' hn hL
  generalize lenT L n = T at *
  go_enter Try.func56, Try.ntmps56
  go_wp2_with (first | (go_at_call 23; (with_reducible refine (kl _ t0 hP).mono ?_); rintro e w' ⟨rfl, rfl⟩) | (go_at_call 39; go_call spec_l00In as e w' ⟨rfl, rfl⟩))
  go_returns
  exact ⟨rfl, rfl⟩

set_option maxHeartbeats 1000000 in
theorem spec_l11Track (g q : Nat) (a : Option Addr) (n c : Nat) (L G : Nat → Int) (lf lu : Int) (bb bo : Nat) (d f x s : Int) (w : World) (t0 : w.cell? ⟨g, q, none⟩ = some (.slice a n c)) (t1 : w.cell? ⟨g, q + 1, none⟩ = some (.int .i64 lf)) (t2 : w.cell? ⟨g, q + 2, none⟩ = some (.int .i64 lu))
    (b0 : w.cell? ⟨bb, bo, none⟩ = some (.int .i64 d)) (b1 : w.cell? ⟨bb, bo + 1, none⟩ = some (.int .i64 f)) (hP : PassAt w a n L G) (hn : n ≤ 1048576) :
    Calls Try.prog 41 #[.pointer (some ⟨g, q, none⟩), .pointer (some ⟨bb, bo, none⟩), .int .i64 x, .int .i64 s] w fun e w' => e = .returned (.int .i64 (tbC L G n lf lu d f x s)) ∧ Below w.heap.size w w' := by
  have kt := fun W h0 h1 h2 h => spec_l03Ok g q a n c L G lf lu W h0 h1 h2 h hn
  have kb := fun W h0 h1 => spec_l11Ok bb bo d f W h0 h1
  have ks := fun W => spec_l11Speed s W
  have hg1 : g < w.heap.size := World.block_lt_of_cell? w _ t0
  have hb1 : bb < w.heap.size := World.block_lt_of_cell? w _ b0
  have fb := fun W' (hB : Below w.heap.size w W') => And.intro ((hB.cell (p := ⟨bb, bo, none⟩) hb1).trans b0) ((hB.cell (p := ⟨bb, bo + 1, none⟩) hb1).trans b1)
  cases h1 : trackOk L G n lf lu
  · rw [tb_1a h1]
    rw [h1] at kt
    go_enter Try.func41, Try.ntmps41
    go_wp2_with (go_at_call 22; (with_reducible refine (kt _ t0 t1 t2 hP).mono ?_); rintro e w' ⟨rfl, hb⟩; obtain ⟨hc, hf⟩ := bcell hb; have hz : w.heap.size ≤ w'.heap.size := (by have := hb.size; (try simp at this); omega); have hB : Below w.heap.size w w' := Below.trans (by go_grown) (hb.mono (by go_size)))
    go_returns
    exact ⟨rfl, hB⟩
  · rw [h1] at kt
    cases h2 : validBrake d f
    · rw [tb_1b h1 h2]
      rw [h2] at kb
      go_enter Try.func41, Try.ntmps41
      go_wp2_with (first | (go_at_call 22; (with_reducible refine (kt _ t0 t1 t2 hP).mono ?_); rintro e w' ⟨rfl, hb⟩; obtain ⟨hc, hf⟩ := bcell hb; have hz : w.heap.size ≤ w'.heap.size := (by have := hb.size; (try simp at this); omega); have hB : Below w.heap.size w w' := Below.trans (by go_grown) (hb.mono (by go_size))) | (go_at_call 44; (with_reducible refine (kb _ (fb _ hB).1 (fb _ hB).2).mono ?_); rintro e w' ⟨rfl, rfl⟩))
      go_returns
      exact ⟨rfl, hB⟩
    · rw [h2] at kb
      obtain ⟨_, hn12, hno, _⟩ := track_at h1
      have hsl : ∀ j, j < n → 1 ≤ L j ∧ L j ≤ 3000000 := fun j hj => ⟨(secs_at hno hj).1, (secs_at hno hj).2.1⟩
      have kp := fun W h h' => spec_l03Place g q a n c L G x W h h' hn12 hsl
      have H2a := Lib.hid (fun h => tb_2a (lf := lf) (lu := lu) (d := d) (f := f) (x := x) (s := s) h1 h2 h)
      have H2b := Lib.hid (fun h h' => tb_2b (lf := lf) (lu := lu) (d := d) (f := f) (x := x) (s := s) h1 h2 h h')
      have H0 := Lib.hid (fun h h' => tb_0 (lf := lf) (lu := lu) (d := d) (f := f) (x := x) (s := s) h1 h2 h h')
      clear hno hsl h1 h2
      have tr := fun W' (hB : Below w.heap.size w W') => (hB.cell (p := ⟨g, q, none⟩) hg1).trans t0
      cases h3 : inB x 0 (lenT L n)
      · rw [H2a.out h3]
        rw [h3] at kp
        go_enter Try.func41, Try.ntmps41
        go_wp2_with (first | (go_at_call 22; (with_reducible refine (kt _ t0 t1 t2 hP).mono ?_); rintro e w' ⟨rfl, hb⟩; obtain ⟨hc, hf⟩ := bcell hb; have hz : w.heap.size ≤ w'.heap.size := (by have := hb.size; (try simp at this); omega); have hB : Below w.heap.size w w' := Below.trans (by go_grown) (hb.mono (by go_size))) | (go_at_call 44; (with_reducible refine (kb _ (fb _ hB).1 (fb _ hB).2).mono ?_); rintro e w' ⟨rfl, rfl⟩) | (go_at_call 56; (with_reducible refine (kp _ (tr _ hB) (hP.below hB)).mono ?_); rintro e w' ⟨rfl, rfl⟩))
        go_returns
        exact ⟨rfl, hB⟩
      · rw [h3] at kp
        cases h4 : inB s 0 15000
        · rw [H2b.out h3 h4]
          rw [h4] at ks
          go_enter Try.func41, Try.ntmps41
          go_wp2_with (first | (go_at_call 22; (with_reducible refine (kt _ t0 t1 t2 hP).mono ?_); rintro e w' ⟨rfl, hb⟩; obtain ⟨hc, hf⟩ := bcell hb; have hz : w.heap.size ≤ w'.heap.size := (by have := hb.size; (try simp at this); omega); have hB : Below w.heap.size w w' := Below.trans (by go_grown) (hb.mono (by go_size))) | (go_at_call 44; (with_reducible refine (kb _ (fb _ hB).1 (fb _ hB).2).mono ?_); rintro e w' ⟨rfl, rfl⟩) | (go_at_call 56; (with_reducible refine (kp _ (tr _ hB) (hP.below hB)).mono ?_); rintro e w' ⟨rfl, rfl⟩) | (go_at_call 45; (with_reducible refine (ks _).mono ?_); rintro e w' ⟨rfl, rfl⟩))
          go_returns
          exact ⟨rfl, hB⟩
        · rw [H0.out h3 h4]
          rw [h4] at ks
          go_enter Try.func41, Try.ntmps41
          go_wp2_with (first | (go_at_call 22; (with_reducible refine (kt _ t0 t1 t2 hP).mono ?_); rintro e w' ⟨rfl, hb⟩; obtain ⟨hc, hf⟩ := bcell hb; have hz : w.heap.size ≤ w'.heap.size := (by have := hb.size; (try simp at this); omega); have hB : Below w.heap.size w w' := Below.trans (by go_grown) (hb.mono (by go_size))) | (go_at_call 44; (with_reducible refine (kb _ (fb _ hB).1 (fb _ hB).2).mono ?_); rintro e w' ⟨rfl, rfl⟩) | (go_at_call 56; (with_reducible refine (kp _ (tr _ hB) (hP.below hB)).mono ?_); rintro e w' ⟨rfl, rfl⟩) | (go_at_call 45; (with_reducible refine (ks _).mono ?_); rintro e w' ⟨rfl, rfl⟩))
          go_returns
          exact ⟨rfl, hB⟩

end Go.Proofs.Ytcnnhklbilcbaaa
