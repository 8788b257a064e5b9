/-
  Contracts: the first state that is not safe; whether all states are safe.
-/
import Derived.Test.YtjfpiadjbhnljaaKR3
namespace Go.Proofs.Ytjfpiadjbhnljaa
open Go.RowKit
set_option linter.unusedVariables false
set_option linter.unusedSimpArgs false


theorem unsafe_1 {x : St} (h : x.ok = false) : unsafeC x = 1 ∧ unsafeS x = St.zero := by
  have e : unsafeC x = 1 := by unfold unsafeC; rw [h]; rfl
  exact ⟨e, by unfold unsafeS; rw [e]; rfl⟩
theorem unsafe_3 {x : St} (h : x.ok = true) (h2 : ¬ badS (reachS x) < (reachS x).length) : unsafeC x = 3 ∧ unsafeS x = St.zero ∧ idx (fun j => !safeS ((reachS x).getD j St.zero)) (reachS x).length = -1 := by
  have e : unsafeC x = 3 := by unfold unsafeC; rw [h, if_pos rfl, if_neg h2]
  exact ⟨e, by unfold unsafeS; rw [e]; rfl, if_neg h2⟩
theorem unsafe_0 {x : St} (h : x.ok = true) (h2 : badS (reachS x) < (reachS x).length) : unsafeC x = 0 ∧ (reachS x)[badS (reachS x)]? = some (unsafeS x) ∧ idx (fun j => !safeS ((reachS x).getD j St.zero)) (reachS x).length = badS (reachS x) := by
  have e : unsafeC x = 0 := by unfold unsafeC; rw [h, if_pos rfl, if_pos h2]
  refine ⟨e, ?_, if_pos h2⟩
  unfold unsafeS
  rw [e, if_pos rfl, List.getD_eq_getElem?_getD, List.getElem?_eq_getElem h2]; rfl
set_option maxHeartbeats 1000000 in
theorem impl_FirstUnsafeState (m : Int) (o a b e : Bool) (w : World) : Calls Try.prog 14 #[.agg #[.int .i64 m, .bool o, .bool a, .bool b, .bool e]] w
    fun e' w' => e' = .returned (.tuple #[(unsafeS ⟨m, o, a, b, e⟩).val, .int .i64 (unsafeC ⟨m, o, a, b, e⟩)]) ∧ Below w.heap.size w w' := by
  have kv := fun W => impl_ValidControl m o a b e W
  cases hx : inB m 0 4
  · obtain ⟨e1, e2⟩ := unsafe_1 (x := ⟨m, o, a, b, e⟩) hx
    rw [e1, e2]
    rw [hx] at kv
    clear e1 e2 hx
    go_enter Try.func14, Try.ntmps14
    go_wp2_with (go_at_call 31; (with_reducible refine (kv _).mono ?_); rintro e w' ⟨rfl, hb⟩; obtain ⟨hc, hf, hs⟩ := bkeep hb; have hz : w.heap.size < w'.heap.size := (by have := hb.size; (try simp at this); omega); have hz1 : w.heap.size + 1 < w'.heap.size := (by have := hb.size; (try simp at this); omega); have hB : Below w.heap.size w w' := Below.trans (by go_grown) (hb.mono (by go_size)))
    refine bodyPost_ret (by simp [results, Try.results14, go_sem, *]; try rfl) rfl ?_
    exact ⟨rfl, by go_grown⟩
  · have kr := fun W => impl_reached m o a b e W hx
    have hlen := (reachS_ok (x := ⟨m, o, a, b, e⟩) hx).len
    have ki := fun A C W h => impl_IndexFunc_unsafe A C (reachS ⟨m, o, a, b, e⟩) W h (by omega)
    rw [hx] at kv
    by_cases hb : badS (reachS ⟨m, o, a, b, e⟩) < (reachS ⟨m, o, a, b, e⟩).length
    · obtain ⟨e1, e2, e3⟩ := unsafe_0 (x := ⟨m, o, a, b, e⟩) hx hb
      rw [e1]
      rw [e3] at ki
      generalize reachS ⟨m, o, a, b, e⟩ = L at *
      generalize unsafeS ⟨m, o, a, b, e⟩ = y at *
      generalize badS L = K at *
      obtain ⟨y0, y1, y2, y3, y4⟩ := y
      simp only [St.val]
      have HE2 := Lib.hid e2
      have h0 : (0 : Int) ≤ (K : Int) := by omega
      have h1 : (K : Int) < (L.length : Int) := by omega
      have h2 : decide ((K : Int) < 0) = false := decide_eq_false (by omega)
      clear e1 e2 e3 hx
      go_enter Try.func14, Try.ntmps14
      go_wp2_with (first | (go_at_call 31; (with_reducible refine (kv _).mono ?_); rintro e w' ⟨rfl, hb⟩; obtain ⟨hc, hf, hs⟩ := bkeep hb; have hz : w.heap.size < w'.heap.size := (by have := hb.size; (try simp at this); omega); have hz1 : w.heap.size + 1 < w'.heap.size := (by have := hb.size; (try simp at this); omega); have hB : Below w.heap.size w w' := Below.trans (by go_grown) (hb.mono (by go_size))) | (go_at_call 36; (with_reducible refine (kr _).mono ?_); rintro e2 w1 ⟨A, C, mv, rfl, hz, hb1⟩; have hB1 : Below w.heap.size w w1 := hB.trans (hb1.mono hB.size); obtain ⟨hc1, hf1, hs1⟩ := bkeep hb1; have z0 : w.heap.size + 1 < w1.heap.size := hs1 _ hz1; clear hb1) | (go_at_call 37; (with_reducible refine (ki _ _ _ hz).mono ?_); rintro e3 w2 ⟨rfl, hb2⟩; have hB2 : Below w.heap.size w w2 := hB1.trans (hb2.mono hB1.size); obtain ⟨hc2, hf2, hs2⟩ := bkeep hb2; have z1 : w.heap.size + 1 < w2.heap.size := hs2 _ z0; obtain ⟨b1, rfl, zb, zc⟩ := (hz.below hb2) (by omega); obtain ⟨c0, c1, c2, c3, c4⟩ := zc K ⟨y0, y1, y2, y3, y4⟩ HE2.out; (try simp only at c0 c1 c2 c3 c4); clear hb2 zc hz))
      refine bodyPost_ret (by simp [results, Try.results14, go_sem, *]; try rfl) rfl ?_
      exact ⟨rfl, by go_grown⟩
    · obtain ⟨e1, e2, e3⟩ := unsafe_3 (x := ⟨m, o, a, b, e⟩) hx hb
      rw [e1, e2]
      rw [e3] at ki
      generalize reachS ⟨m, o, a, b, e⟩ = L at *
      clear e1 e2 e3 hx hb
      go_enter Try.func14, Try.ntmps14
      go_wp2_with (first | (go_at_call 31; (with_reducible refine (kv _).mono ?_); rintro e w' ⟨rfl, hb⟩; obtain ⟨hc, hf, hs⟩ := bkeep hb; have hz : w.heap.size < w'.heap.size := (by have := hb.size; (try simp at this); omega); have hz1 : w.heap.size + 1 < w'.heap.size := (by have := hb.size; (try simp at this); omega); have hB : Below w.heap.size w w' := Below.trans (by go_grown) (hb.mono (by go_size))) | (go_at_call 36; (with_reducible refine (kr _).mono ?_); rintro e2 w1 ⟨A, C, mv, rfl, hz, hb1⟩; have hB1 : Below w.heap.size w w1 := hB.trans (hb1.mono hB.size); obtain ⟨hc1, hf1, hs1⟩ := bkeep hb1; have z0 : w.heap.size + 1 < w1.heap.size := hs1 _ hz1; clear hb1) | (go_at_call 37; (with_reducible refine (ki _ _ _ hz).mono ?_); rintro e3 w2 ⟨rfl, hb2⟩; have hB2 : Below w.heap.size w w2 := hB1.trans (hb2.mono hB1.size); obtain ⟨hc2, hf2, hs2⟩ := bkeep hb2; have z1 : w.heap.size + 1 < w2.heap.size := hs2 _ z0; clear hb2))
      refine bodyPost_ret (by simp [results, Try.results14, go_sem, *]; try rfl) rfl ?_
      exact ⟨rfl, by go_grown⟩

theorem impl_AllSafe (m : Int) (o a b e : Bool) (w : World) : Calls Try.prog 12 #[.agg #[.int .i64 m, .bool o, .bool a, .bool b, .bool e]] w
    fun e' w' => e' = .returned (.bool (allSafeB ⟨m, o, a, b, e⟩)) ∧ Below w.heap.size w w' := by
  have kf := fun W => impl_FirstUnsafeState m o a b e W
  unfold allSafeB
  generalize unsafeS ⟨m, o, a, b, e⟩ = y at *
  generalize unsafeC ⟨m, o, a, b, e⟩ = K at *
  obtain ⟨y0, y1, y2, y3, y4⟩ := y
  simp only [St.val] at kf
  go_enter Try.func12, Try.ntmps12
  go_wp2_with (go_at_call 14; (with_reducible refine (kf _).mono ?_); rintro e w' ⟨rfl, hb⟩; obtain ⟨hc, hf⟩ := bcell hb; have hz : w.heap.size < w'.heap.size := (by have := hb.size; (try simp at this); omega); have hB : Below w.heap.size w w' := Below.trans (by go_grown) (hb.mono (by go_size)))
  go_returns
  exact ⟨rfl, by go_grown⟩

set_option maxHeartbeats 1000000 in
theorem spec_FirstUnsafeState (m : Int) (o a b e : Bool) (w : World) : Calls Try.prog 13 #[.agg #[.int .i64 m, .bool o, .bool a, .bool b, .bool e]] w
    fun e' w' => e' = .returned (.tuple #[(unsafeS ⟨m, o, a, b, e⟩).val, .int .i64 (unsafeC ⟨m, o, a, b, e⟩)]) ∧ Below w.heap.size w w' := by
  have kv := fun W c0 => spec_l13Ok w.heap.size 0 m W c0
  cases hx : inB m 0 4
  · obtain ⟨e1, e2⟩ := unsafe_1 (x := ⟨m, o, a, b, e⟩) hx
    rw [e1, e2]
    rw [hx] at kv
    clear e1 e2 hx
    go_enter Try.func13, Try.ntmps13
    go_wp2_with (go_at_call 33; refine (kv _ (by go_cell)).mono ?_; rintro e1 w0 ⟨rfl, rfl⟩)
    refine bodyPost_ret (by simp [results, Try.results13, go_sem, *]; try rfl) rfl ?_
    exact ⟨rfl, by go_grown⟩
  · have kr := fun W => spec_l15Reached m o a b e W hx
    have hgood := reachS_ok (x := ⟨m, o, a, b, e⟩) hx
    have hlen := hgood.len
    have ki := fun A C W h => spec_l15Unsafe A C (reachS ⟨m, o, a, b, e⟩) W h (by omega) hgood.2
    rw [hx] at kv
    clear hgood
    by_cases hb : badS (reachS ⟨m, o, a, b, e⟩) < (reachS ⟨m, o, a, b, e⟩).length
    · obtain ⟨e1, e2, e3⟩ := unsafe_0 (x := ⟨m, o, a, b, e⟩) hx hb
      rw [e1]
      rw [e3] at ki
      generalize reachS ⟨m, o, a, b, e⟩ = L at *
      generalize unsafeS ⟨m, o, a, b, e⟩ = y at *
      generalize badS L = K at *
      obtain ⟨y0, y1, y2, y3, y4⟩ := y
      simp only [St.val]
      have HE2 := Lib.hid e2
      have h0 : (0 : Int) ≤ (K : Int) := by omega
      have h1 : (K : Int) < (L.length : Int) := by omega
      have h2 : decide ((K : Int) < 0) = false := decide_eq_false (by omega)
      clear e1 e2 e3 hx
      go_enter Try.func13, Try.ntmps13
      go_wp2_with (first | (go_at_call 33; refine (kv _ (by go_cell)).mono ?_; rintro e1 w0 ⟨rfl, rfl⟩) | (go_at_call 35; (with_reducible refine (kr _).mono ?_); rintro e2 w1 ⟨A, C, rfl, hz, hb1⟩; have hB1 : Below w.heap.size w w1 := Below.trans (by go_grown) (hb1.mono (by go_size)); obtain ⟨hc1, hf1, hs1⟩ := bkeep hb1; have z0 : w.heap.size + 1 < w1.heap.size := hs1 _ (by simp); clear hb1) | (go_at_call 34; (with_reducible refine (ki _ _ _ hz).mono ?_); rintro e3 w2 ⟨rfl, hb2⟩; have hB2 : Below w.heap.size w w2 := hB1.trans (hb2.mono hB1.size); obtain ⟨hc2, hf2, hs2⟩ := bkeep hb2; have z1 : w.heap.size + 1 < w2.heap.size := hs2 _ z0; obtain ⟨b1, rfl, zb, zc⟩ := (hz.below hb2) (by omega); obtain ⟨c0, c1, c2, c3, c4⟩ := zc K ⟨y0, y1, y2, y3, y4⟩ HE2.out; (try simp only at c0 c1 c2 c3 c4); clear hb2 zc hz))
      refine bodyPost_ret (by simp [results, Try.results13, go_sem, *]; try rfl) rfl ?_
      exact ⟨rfl, by go_grown⟩
    · obtain ⟨e1, e2, e3⟩ := unsafe_3 (x := ⟨m, o, a, b, e⟩) hx hb
      rw [e1, e2]
      rw [e3] at ki
      generalize reachS ⟨m, o, a, b, e⟩ = L at *
      clear e1 e2 e3 hx hb
      go_enter Try.func13, Try.ntmps13
      go_wp2_with (first | (go_at_call 33; refine (kv _ (by go_cell)).mono ?_; rintro e1 w0 ⟨rfl, rfl⟩) | (go_at_call 35; (with_reducible refine (kr _).mono ?_); rintro e2 w1 ⟨A, C, rfl, hz, hb1⟩; have hB1 : Below w.heap.size w w1 := Below.trans (by go_grown) (hb1.mono (by go_size)); obtain ⟨hc1, hf1, hs1⟩ := bkeep hb1; have z0 : w.heap.size + 1 < w1.heap.size := hs1 _ (by simp); clear hb1) | (go_at_call 34; (with_reducible refine (ki _ _ _ hz).mono ?_); rintro e3 w2 ⟨rfl, hb2⟩; have hB2 : Below w.heap.size w w2 := hB1.trans (hb2.mono hB1.size); obtain ⟨hc2, hf2, hs2⟩ := bkeep hb2; have z1 : w.heap.size + 1 < w2.heap.size := hs2 _ z0; clear hb2))
      refine bodyPost_ret (by simp [results, Try.results13, go_sem, *]; try rfl) rfl ?_
      exact ⟨rfl, by go_grown⟩

set_option maxHeartbeats 1000000 in
theorem spec_AllSafe (m : Int) (o a b e : Bool) (w : World) : Calls Try.prog 10 #[.agg #[.int .i64 m, .bool o, .bool a, .bool b, .bool e]] w
    fun e' w' => e' = .returned (.bool (allSafeB ⟨m, o, a, b, e⟩)) ∧ Below w.heap.size w w' := by
  have kv := fun W c0 => spec_l13Ok w.heap.size 0 m W c0
  unfold allSafeB
  cases hx : inB m 0 4
  · obtain ⟨e1, e2⟩ := unsafe_1 (x := ⟨m, o, a, b, e⟩) hx
    rw [e1]
    rw [hx] at kv
    clear e1 e2 hx
    go_enter Try.func10, Try.ntmps10
    go_wp2_with (go_at_call 33; refine (kv _ (by go_cell)).mono ?_; rintro e1 w0 ⟨rfl, rfl⟩)
    go_returns
    exact ⟨rfl, by go_grown⟩
  · have kr := fun W => spec_l15Reached m o a b e W hx
    have hgood := reachS_ok (x := ⟨m, o, a, b, e⟩) hx
    have hlen := hgood.len
    have ki := fun A C W h => spec_l15Unsafe A C (reachS ⟨m, o, a, b, e⟩) W h (by omega) hgood.2
    rw [hx] at kv
    clear hgood
    by_cases hb : badS (reachS ⟨m, o, a, b, e⟩) < (reachS ⟨m, o, a, b, e⟩).length
    · obtain ⟨e1, e2, e3⟩ := unsafe_0 (x := ⟨m, o, a, b, e⟩) hx hb
      rw [e1]
      rw [e3] at ki
      generalize reachS ⟨m, o, a, b, e⟩ = L at *
      generalize badS L = K at *
      have h0 : (0 : Int) ≤ (K : Int) := by omega
      have h2 : decide ((K : Int) < 0) = false := decide_eq_false (by omega)
      clear e1 e2 e3 hx
      go_enter Try.func10, Try.ntmps10
      go_wp2_with (first | (go_at_call 33; refine (kv _ (by go_cell)).mono ?_; rintro e1 w0 ⟨rfl, rfl⟩) | (go_at_call 35; (with_reducible refine (kr _).mono ?_); rintro e2 w1 ⟨A, C, rfl, hz, hb1⟩; have hB1 : Below w.heap.size w w1 := Below.trans (by go_grown) (hb1.mono (by go_size)); clear hb1) | (go_at_call 34; (with_reducible refine (ki _ _ _ hz).mono ?_); rintro e3 w2 ⟨rfl, hb2⟩; have hB2 : Below w.heap.size w w2 := hB1.trans (hb2.mono hB1.size); clear hb2))
      go_returns
      exact ⟨rfl, by go_grown⟩
    · obtain ⟨e1, e2, e3⟩ := unsafe_3 (x := ⟨m, o, a, b, e⟩) hx hb
      rw [e1]
      rw [e3] at ki
      generalize reachS ⟨m, o, a, b, e⟩ = L at *
      clear e1 e2 e3 hx hb
      go_enter Try.func10, Try.ntmps10
      go_wp2_with (first | (go_at_call 33; refine (kv _ (by go_cell)).mono ?_; rintro e1 w0 ⟨rfl, rfl⟩) | (go_at_call 35; (with_reducible refine (kr _).mono ?_); rintro e2 w1 ⟨A, C, rfl, hz, hb1⟩; have hB1 : Below w.heap.size w w1 := Below.trans (by go_grown) (hb1.mono (by go_size)); clear hb1) | (go_at_call 34; (with_reducible refine (ki _ _ _ hz).mono ?_); rintro e3 w2 ⟨rfl, hb2⟩; have hB2 : Below w.heap.size w w2 := hB1.trans (hb2.mono hB1.size); clear hb2))
      go_returns
      exact ⟨rfl, by go_grown⟩

end Go.Proofs.Ytjfpiadjbhnljaa
