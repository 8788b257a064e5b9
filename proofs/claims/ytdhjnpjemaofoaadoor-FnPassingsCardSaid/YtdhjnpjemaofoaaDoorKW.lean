/-
  Contracts: after how many ticks a door is shut.
-/
import Derived.Test.YtdhjnpjemaofoaaDoorKU
import Derived.Test.YtdhjnpjemaofoaaDoorM1
import Derived.Deep.DeepCutAuto
import Derived.Lib.Hide
namespace Go.Proofs.YtdhjnpjemaofoaaDoor
open Go.RowKit
set_option linter.unusedVariables false
set_option linter.unusedSimpArgs false


/-- A block of three cells, none frozen. -/
structure Row3 (w : World) (g : Nat) (x y z : Value) : Prop where
  c0 : w.cell? ⟨g, 0, none⟩ = some x
  c1 : w.cell? ⟨g, 1, none⟩ = some y
  c2 : w.cell? ⟨g, 2, none⟩ = some z
  f0 : w.frozen? ⟨g, 0, none⟩ = false
  f1 : w.frozen? ⟨g, 1, none⟩ = false
  f2 : w.frozen? ⟨g, 2, none⟩ = false
  lt : g < w.heap.size
theorem Row3.below {w w' : World} {g : Nat} {x y z : Value} (h : Row3 w g x y z) (hb : Below w.heap.size w w') : Row3 w' g x y z :=
  ⟨(hb.cell (p := ⟨g, 0, none⟩) h.lt).trans h.c0, (hb.cell (p := ⟨g, 1, none⟩) h.lt).trans h.c1, (hb.cell (p := ⟨g, 2, none⟩) h.lt).trans h.c2,
   (hb.frozen (p := ⟨g, 0, none⟩) h.lt).trans h.f0, (hb.frozen (p := ⟨g, 1, none⟩) h.lt).trans h.f1, (hb.frozen (p := ⟨g, 2, none⟩) h.lt).trans h.f2, Nat.lt_of_lt_of_le h.lt hb.size⟩
theorem Row3.set {w : World} {g : Nat} {x y z x' y' z' : Value} (h : Row3 w g x y z) :
    Row3 (((w.setCell ⟨g, 0, none⟩ x').setCell ⟨g, 1, none⟩ y').setCell ⟨g, 2, none⟩ z') g x' y' z' :=
  ⟨cell_off (cell_off (cell_same h.c0) (by decide)) (by decide), cell_off (cell_same (cell_off h.c1 (by decide))) (by decide), cell_same (cell_off (cell_off h.c2 (by decide)) (by decide)),
   by simpa using h.f0, by simpa using h.f1, by simpa using h.f2, lt_set (lt_set (lt_set h.lt))⟩
theorem below_set3 {a w : World} {g B : Nat} {x' y' z' : Value} (h : Below B a w) (hg : B ≤ g) : Below B a (((w.setCell ⟨g, 0, none⟩ x').setCell ⟨g, 1, none⟩ y').setCell ⟨g, 2, none⟩ z') :=
  below_set (below_set (below_set h hg) hg) hg

set_option maxHeartbeats 2000000 in
theorem impl_TicksToShut (p k r : Int) (w : World) : Calls Tryd.prog 15 #[.agg #[.int .i64 p, .int .i64 k, .int .i64 r]] w
    fun e' w' => e' = .returned (.tuple #[.int .i64 (shutV ⟨p, k, r⟩), .int .i64 (shutCode ⟨p, k, r⟩)]) ∧ Below w.heap.size w w' := by
  have kv := fun W => impl_ValidDoor p k r W
  cases h1 : validDoor p k r
  · have e1 : shutCode ⟨p, k, r⟩ = 1 := if_neg (by show ¬ validDoor p k r = true; rw [h1]; decide)
    have e2 : shutV ⟨p, k, r⟩ = 0 := if_neg (by show ¬ validDoor p k r = true; rw [h1]; decide)
    rw [e1, e2]
    clear e1 e2
    rw [h1] at kv
    go_enter Tryd.func15, Tryd.ntmps15
    go_wp2_with (go_at_call 38; (with_reducible refine (kv _).mono ?_); rintro e w' ⟨rfl, hb⟩; obtain ⟨hc, hf⟩ := bcell hb; have hz : w.heap.size < w'.heap.size := (by have := hb.size; (try simp at this); omega); have hB : Below w.heap.size w w' := Below.trans (by go_grown) (hb.mono (by go_size)))
    go_returns
    exact ⟨rfl, by go_grown⟩
  · rw [h1] at kv
    have e1 : shutCode ⟨p, k, r⟩ = 0 := if_pos h1
    have e2 : shutV ⟨p, k, r⟩ = leftD ⟨p, k, r⟩ := if_pos h1
    rw [e1, e2]
    clear e1 e2
    generalize hL : leftD ⟨p, k, r⟩ = L at *
    have hLp := (leftD_pos (d := ⟨p, k, r⟩) h1)
    rw [hL] at hLp
    have H1 := Lib.hid h1
    have HL := Lib.hid hL
    clear h1 hL
    go_enter Tryd.func15, Tryd.ntmps15
    go_wp2_with (go_at_call 38; (with_reducible refine (kv _).mono ?_); rintro e w' ⟨rfl, hb⟩; obtain ⟨hc, hf⟩ := bcell hb; have hz : w.heap.size < w'.heap.size := (by have := hb.size; (try simp at this); omega); have hB : Below w.heap.size w w' := Below.trans (by go_grown) (hb.mono (by go_size)))
    go_loopw [4] (fun x wr => ∃ (d : Dr) (n : Int), x = .int .i64 n ∧ 0 ≤ n ∧ n + leftD d = L ∧ d.ok = true ∧ Row3 wr w.heap.size (.int .i64 d.p) (.int .i64 d.k) (.int .i64 d.r) ∧ Below w.heap.size w wr) (fun x _ => (6 - intOf x).toNat)
    case atStart => exact ⟨⟨p, k, r⟩, 0, rfl, by omega, by rw [HL.out]; omega, H1.out, ⟨by go_cell, by go_cell, by go_cell, by go_simp, by go_simp, by go_simp, by first | omega | simp⟩, by go_grown⟩
    case round =>
      obtain ⟨⟨p', k', r'⟩, n, rfl, hn, hnl, hok, hR, hB⟩ := hrel
      simp only at hR
      have hp := leftD_pos hok
      simp only at hp
      have hn6 : n ≤ 6 := by omega
      obtain ⟨c0, c1, c2, f0, f1, f2, hz⟩ := id hR
      by_cases h0 : p' = 0
      · subst h0
        have hnL : n = L := by omega
        subst hnL
        clear hok HL hnl hp
        go_wp2
        refine bodyPost_ret (by simp [results, Tryd.results15, go_sem, *]; try rfl) rfl ?_
        exact ⟨rfl, hB⟩
      · have h0' : (p' == 0) = false := beq_eq_false_iff_ne.2 h0
        have hfi := Dr.ok_fits hok
        have hl := pullD_left hok h0
        have hk := pullD_ok hok
        have kt := fun p' k' r' W h => impl_Door_tick p' k' r' W h
        by_cases h2 : p' = 2
        · subst h2
          have ks := fun W => impl_doorAfter 2 k' r' 2 W hfi (by omega) (by omega)
          have e4 : doorStep ⟨2, k', r'⟩ 2 = ⟨3, 0, 0⟩ := by simp [doorStep, doorMay]
          have e5 : doorMay ⟨2, k', r'⟩ 2 = true := by simp [doorMay]
          rw [e4, e5] at ks
          have ka := fun W => kt 3 0 0 W (by simp [Dr.fits])
          have e1 : doorStep ⟨3, 0, 0⟩ 4 = tickD ⟨3, 0, 0⟩ := by simp [doorStep, doorMay]
          have e2 : doorMay ⟨3, 0, 0⟩ 4 = true := by simp [doorMay]
          have e3 : pullD ⟨2, k', r'⟩ = tickD ⟨3, 0, 0⟩ := by unfold pullD; rw [if_pos rfl]
          
          rw [e3] at hl hk
          clear e1 e2 e3 e4 e5
          generalize tickD ⟨3, 0, 0⟩ = R at *
          obtain ⟨r1, r2, r3⟩ := R
          simp only [Dr.val] at *
          have HK := Lib.hid hk
          have HLL := Lib.hid hl
          have HN := Lib.hid hnl
          clear hk hl hnl hok hfi kt
          go_wp2_with (first | (go_at_call 40; ((with_reducible refine (ks _).mono ?_); rintro e w' ⟨rfl, hb⟩; have hB2 : Below w.heap.size w w' := hB.trans (hb.mono hB.size); have hR2 := hR.below hb; obtain ⟨Q0, Q1, Q2, F0, F1, F2, Z⟩ := id hR2; clear hb; clear c0 c1 c2 f0 f1 f2 hz)) | (go_at_call 43; ((with_reducible refine (ka _).mono ?_); have hB3 := below_set3 (x' := .int .i64 3) (y' := .int .i64 0) (z' := .int .i64 0) hB2 (Nat.le_refl _); have hR3 := hR2.set (x' := .int .i64 3) (y' := .int .i64 0) (z' := .int .i64 0); clear hR2 hB2 Q0 Q1 Q2 F0 F1 F2 Z; rintro e w' ⟨rfl, hb⟩; have hB2 : Below w.heap.size w w' := hB3.trans (hb.mono hB3.size); have hR2 := hR3.below hb; obtain ⟨Q0, Q1, Q2, F0, F1, F2, Z⟩ := id hR2; clear hb)))
          go_roundw
          case rel => exact ⟨⟨r1, r2, r3⟩, n + 1, rfl, by omega, by have := HLL.out; have := HN.out; omega, HK.out, hR2.set, below_set3 hB2 (Nat.le_refl _)⟩
          case measure => simp [intOf]; have := HN.out; omega
        · have h2' : (p' == 2) = false := beq_eq_false_iff_ne.2 h2
          have ka := fun W => kt p' k' r' W hfi
          have e1 : doorStep ⟨p', k', r'⟩ 4 = tickD ⟨p', k', r'⟩ := by simp [doorStep, doorMay]
          have e2 : doorMay ⟨p', k', r'⟩ 4 = true := by simp [doorMay]
          have e3 : pullD ⟨p', k', r'⟩ = tickD ⟨p', k', r'⟩ := by unfold pullD; rw [if_neg (by exact h2)]
          
          rw [e3] at hl hk
          clear e1 e2 e3
          generalize tickD ⟨p', k', r'⟩ = R at *
          obtain ⟨r1, r2, r3⟩ := R
          simp only [Dr.val] at *
          have HK := Lib.hid hk
          have HLL := Lib.hid hl
          have HN := Lib.hid hnl
          clear hk hl hnl hok hfi kt
          go_wp2_with (go_at_call 43; ((with_reducible refine (ka _).mono ?_); rintro e w' ⟨rfl, hb⟩; have hB2 : Below w.heap.size w w' := hB.trans (hb.mono hB.size); have hR2 := hR.below hb; obtain ⟨Q0, Q1, Q2, F0, F1, F2, Z⟩ := id hR2; clear hb))
          go_roundw
          case rel => exact ⟨⟨r1, r2, r3⟩, n + 1, rfl, by omega, by have := HLL.out; have := HN.out; omega, HK.out, hR2.set, below_set3 hB2 (Nat.le_refl _)⟩
          case measure => simp [intOf]; have := HN.out; omega

end Go.Proofs.YtdhjnpjemaofoaaDoor
