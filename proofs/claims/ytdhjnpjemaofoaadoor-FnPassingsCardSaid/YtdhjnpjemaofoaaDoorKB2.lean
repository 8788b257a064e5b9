/-
  Contracts: where a car is at a second.
-/
import Derived.Test.YtdhjnpjemaofoaaDoorKH
import Derived.Test.YtdhjnpjemaofoaaDoorKP
import Derived.Test.YtdhjnpjemaofoaaDoorPu
import Derived.Test.YtdhjnpjemaofoaaDoorQu
namespace Go.Proofs.YtdhjnpjemaofoaaDoor
open Go.RowKit
set_option linter.unusedVariables false
set_option linter.unusedSimpArgs false


set_option maxHeartbeats 1000000 in
theorem impl_blend (x0 y0 x1 y1 x : Int) (w : World) (h1 : 0 ≤ y0) (h2 : y0 ≤ 4000000) (h3 : 0 ≤ y1) (h4 : y1 ≤ 4000000) (h5 : 0 ≤ x0) (h6 : x0 ≤ 1000000) (h7 : 0 ≤ x1) (h8 : x1 ≤ 1000000) (h9 : 0 ≤ x) (h10 : x ≤ 1000000) :
    Calls Tryd.prog 55 #[.int .i64 x0, .int .i64 y0, .int .i64 x1, .int .i64 y1, .int .i64 x] w fun e w' => e = .returned (.int .i64 (lineV x0 y0 x1 y1 x)) ∧ Below w.heap.size w w' := by
  unfold lineV
  by_cases c1 : x ≤ x0
  · rw [if_pos (.inl c1)]
    have d1 : decide (x ≤ x0) = true := decide_eq_true c1
    go_enter Tryd.func55, Tryd.ntmps55
    go_wp2
    go_returns
    exact ⟨rfl, by go_grown⟩
  · have d1 : decide (x ≤ x0) = false := decide_eq_false c1
    by_cases c2 : x1 ≤ x0
    · rw [if_pos (.inr c2)]
      have d2 : decide (x1 ≤ x0) = true := decide_eq_true c2
      go_enter Tryd.func55, Tryd.ntmps55
      go_wp2
      go_returns
      exact ⟨rfl, by go_grown⟩
    · rw [if_neg (by omega)]
      have d2 : decide (x1 ≤ x0) = false := decide_eq_false c2
      by_cases c3 : x1 ≤ x
      · rw [if_pos c3]
        have d3 : decide (x1 ≤ x) = true := decide_eq_true c3
        go_enter Tryd.func55, Tryd.ntmps55
        go_wp2
        go_returns
        exact ⟨rfl, by go_grown⟩
      · rw [if_neg c3]
        have d3 : decide (x1 ≤ x) = false := decide_eq_false c3
        obtain ⟨m1, m2⟩ := mul_abs (a := y1 - y0) (b := x - x0) (A := 4000000) (B := 1000000) (by omega) (by omega) (by omega) (by omega) (by omega)
        have kn := fun W => impl_nearest ((y1 - y0) * (x - x0)) (x1 - x0) W (by omega) (by omega) (by omega) (by omega)
        have nb := near_bound' (a := (y1 - y0) * (x - x0)) (b := x1 - x0) (by omega)
        obtain ⟨n1, n2⟩ : -4000000000001 ≤ nearV ((y1 - y0) * (x - x0)) (x1 - x0) ∧ nearV ((y1 - y0) * (x - x0)) (x1 - x0) ≤ 4000000000001 := by omega
        clear nb
        generalize nearV ((y1 - y0) * (x - x0)) (x1 - x0) = N at *
        go_enter Tryd.func55, Tryd.ntmps55
        go_wp2_with (go_at_call 71; (with_reducible refine (kn _).mono ?_); rintro e w' ⟨rfl, hb⟩; obtain ⟨hc, hf⟩ := bcell hb; have hz : w.heap.size ≤ w'.heap.size := (by have := hb.size; (try simp at this); omega); have hB : Below w.heap.size w w' := Below.trans (by go_grown) (hb.mono (by go_size)))
        go_returns
        exact ⟨rfl, by go_grown⟩

set_option maxHeartbeats 4000000 in
theorem impl_PlaceAtSecond (a : Option Addr) (n c : Nat) (Z : Nat → Int) (a' : Option Addr) (m c' : Nat) (S T : Nat → Int) (t : Int) (w : World) (hz : IntsAt w a n Z) (hy : PassAt w a' m S T) (hn : n ≤ 1048576) (hm : m ≤ 1048576) :
    Calls Tryd.prog 25 #[.slice a n c, .slice a' m c', .int .i64 t] w fun e w' => e = .returned (.tuple #[.int .i64 (placeR Z n S T m t), .int .i64 (placeC Z n S T m t)]) ∧ Below w.heap.size w w' := by
  have kv := impl_ValidPassings a n c Z a' m c' S T w hz hy hn hm
  have k2 := fun W => impl_isSecond t W
  cases h : passOk Z n S T m
  · obtain ⟨e1, e2⟩ := place_1 (t := t) h
    rw [e1, e2]
    rw [h] at kv
    clear h e1 e2
    go_enter Tryd.func25, Tryd.ntmps25
    go_wp2_with (first | (go_at_call 23; (with_reducible refine (kv).mono ?_); rintro e w' ⟨rfl, hb⟩; obtain ⟨hc, hf⟩ := bcell hb; have hz : w.heap.size ≤ w'.heap.size := (by have := hb.size; (try simp at this); omega); have hB : Below w.heap.size w w' := Below.trans (by go_grown) (hb.mono (by go_size))) | (go_at_call 52; (with_reducible refine (k2 _).mono ?_); rintro e w' ⟨rfl, rfl⟩))
    go_returns
    exact ⟨rfl, by go_grown⟩
  · rw [h] at kv
    cases h2 : inB t 0 1000000
    · obtain ⟨e1, e2⟩ := place_2 h h2
      rw [e1, e2]
      rw [h2] at k2
      clear h h2 e1 e2
      go_enter Tryd.func25, Tryd.ntmps25
      go_wp2_with (first | (go_at_call 23; (with_reducible refine (kv).mono ?_); rintro e w' ⟨rfl, hb⟩; obtain ⟨hc, hf⟩ := bcell hb; have hz : w.heap.size ≤ w'.heap.size := (by have := hb.size; (try simp at this); omega); have hB : Below w.heap.size w w' := Below.trans (by go_grown) (hb.mono (by go_size))) | (go_at_call 52; (with_reducible refine (k2 _).mono ?_); rintro e w' ⟨rfl, rfl⟩))
      go_returns
      exact ⟨rfl, by go_grown⟩
    · rw [h2] at k2
      by_cases h3 : m = 0
      · obtain ⟨e1, e2⟩ := place_3 h h2 h3
        rw [e1, e2]
        subst h3
        clear h h2 e1 e2
        go_enter Tryd.func25, Tryd.ntmps25
        go_wp2_with (first | (go_at_call 23; (with_reducible refine (kv).mono ?_); rintro e w' ⟨rfl, hb⟩; obtain ⟨hc, hf⟩ := bcell hb; have hz : w.heap.size ≤ w'.heap.size := (by have := hb.size; (try simp at this); omega); have hB : Below w.heap.size w w' := Below.trans (by go_grown) (hb.mono (by go_size))) | (go_at_call 52; (with_reducible refine (k2 _).mono ?_); rintro e w' ⟨rfl, rfl⟩))
        go_returns
        exact ⟨rfl, by go_grown⟩
      · obtain ⟨e1, e2⟩ := place_0 h h2 h3
        rw [e1, e2]
        obtain ⟨t0, t1⟩ := inB_true.1 h2
        obtain ⟨hr, h16, hg, h32⟩ := passOk_parts h
        have hbd := fun j h => rises_bd (j := j) hr h
        have hs := fun k h => goodP_at (k := k) hg h
        have h0 : ((m : Int) == 0) = false := beq_eq_false_iff_ne.2 (by omega)
        have HB := Lib.hid hbd
        have HS := Lib.hid hs
        clear hr hbd hg h h2 e1 e2 hs
        go_enter Tryd.func25, Tryd.ntmps25
        go_wp2_with fail
        (with_reducible refine kv.mono ?_)
        rintro e w0 ⟨rfl, hB0⟩
        replace hy := hy.below hB0
        replace hz := hz.below hB0
        clear kv
        have hn0 : 0 < n := by have := HS.out 0 (by omega); omega
        have hm0 : (0 : Int) < (m : Int) := by omega
        obtain ⟨b, o, rfl, hb, hc⟩ := hy (by omega)
        obtain ⟨bz, oz, rfl, hbz, hcz⟩ := hz hn0
        obtain ⟨c0, d0⟩ := hc 0 (by omega)
        rw [Nat.zero_mul, Nat.add_zero] at c0 d0
        have HC := Lib.hid hc
        have HZ := Lib.hid hcz
        clear hc hcz
        go_wp2_with (go_at_call 52; (with_reducible refine (k2 _).mono ?_); rintro e w' ⟨rfl, rfl⟩)
        go_loopw [29] (fun i wr => ∃ k : Nat, k ≤ m ∧ i = .int .i64 k ∧ fst (atQ T t) k = k ∧ wr.cell? ⟨w0.heap.size, 0, none⟩ = some (.int .i64 (S (k - 1))) ∧ wr.cell? ⟨w0.heap.size, 1, none⟩ = some (.int .i64 (T (k - 1))) ∧ wr.frozen? ⟨w0.heap.size, 0, none⟩ = false ∧ wr.frozen? ⟨w0.heap.size, 1, none⟩ = false ∧ w0.heap.size < wr.heap.size ∧ Below w0.heap.size w0 wr) (fun i _ => m - (intOf i).toNat)
        case atStart => exact ⟨0, by omega, rfl, rfl, by go_cell, by go_cell, by simp, by simp, by simp, by go_grown⟩
        case round =>
          obtain ⟨k, hk, rfl, hf, g0, g1, f0, f1, hg, hB⟩ := hrel
          have hq := hB.size
          have hb1 : b < wr.heap.size := Nat.lt_of_lt_of_le hb hB.size
          have hb2 : bz < wr.heap.size := Nat.lt_of_lt_of_le hbz hB.size
          have hc := HC.out
          have hcz := HZ.out
          have s0 := HS.out (k - 1) (by omega)
          obtain ⟨s00, s01, s02, s03⟩ := s0
          have z0 := hcz (S (k - 1)).toNat (by omega)
          obtain ⟨y00, y01⟩ := HB.out (S (k - 1)).toNat (by omega)
          rw [show Z (S (k - 1)).toNat = pl Z S (k - 1) from rfl] at z0 y00 y01
          replace z0 := (hB.cell (p := ⟨bz, oz + (S (k - 1)).toNat, none⟩) hbz).trans z0
          by_cases hlt : k < m
          · clear c0 d0
            have s1 := HS.out (k) (by omega)
            obtain ⟨s10, s11, s12, s13⟩ := s1
            obtain ⟨c1, d1⟩ := hc (k) (by omega)
            have z1 := hcz (S (k)).toNat (by omega)
            obtain ⟨y10, y11⟩ := HB.out (S (k)).toNat (by omega)
            rw [show Z (S (k)).toNat = pl Z S (k) from rfl] at z1 y10 y11
            replace c1 := (hB.cell (p := ⟨b, o + (k) * 2, none⟩) hb).trans c1
            replace d1 := (hB.cell (p := ⟨b, o + (k) * 2 + 1, none⟩) hb).trans d1
            replace z1 := (hB.cell (p := ⟨bz, oz + (S (k)).toNat, none⟩) hbz).trans z1
            have HF := Lib.hid hf
            clear hc hcz hf
            by_cases ht : t ≤ T k
            · have HV := Lib.hid (place_hit (Z := Z) (S := S) HF.out ht hlt)
              have kb := fun W => impl_blend (T (k - 1)) (pl Z S (k - 1)) (T k) (pl Z S k) t W y00 y01 y10 y11 s02 s03 s12 s13 t0 t1
              generalize lineV (T (k - 1)) (pl Z S (k - 1)) (T k) (pl Z S k) t = V at *
              go_wp2
              have q0 := cell_old (O := Obj.cells #[.int .i64 (S k), .int .i64 (T k)] 53) g0 hg
              have q1 := cell_old (O := Obj.cells #[.int .i64 (S k), .int .i64 (T k)] 53) g1 hg
              have q2 := cell_old (O := Obj.cells #[.int .i64 (S k), .int .i64 (T k)] 53) z0 hb2
              have q3 := cell_old (O := Obj.cells #[.int .i64 (S k), .int .i64 (T k)] 53) z1 hb2
              have l1 := lt_alloc (O := Obj.cells #[.int .i64 (S k), .int .i64 (T k)] 53) hg
              have l2 := lt_alloc (O := Obj.cells #[.int .i64 (S k), .int .i64 (T k)] 53) hb2
              clear g0 g1 f0 f1 z0 z1 c1 d1
              (have Q0 : (wr.alloc (Obj.cells #[.int .i64 (S k), .int .i64 (T k)] 53)).cell? ⟨wr.heap.size, 0, none⟩ = some (.int .i64 (S k)) := (by go_simp); have Q1 : (wr.alloc (Obj.cells #[.int .i64 (S k), .int .i64 (T k)] 53)).cell? ⟨wr.heap.size, 1, none⟩ = some (.int .i64 (T k)) := (by go_simp); have Z2 : wr.heap.size < (wr.alloc (Obj.cells #[.int .i64 (S k), .int .i64 (T k)] 53)).heap.size := (by first | omega | (simp; done) | (simp; omega)); have BB : Below w0.heap.size w0 (wr.alloc (Obj.cells #[.int .i64 (S k), .int .i64 (T k)] 53)) := (by go_grown); generalize wr.alloc (Obj.cells #[.int .i64 (S k), .int .i64 (T k)] 53) = w2 at *)
              replace hB := BB
              (refine wp_region_cls (by kernel_rfl) (by kernel_rfl) ?_; (repeat (go_big_quiet_step ((go_at_call 55; exact cls_B (kb _))))); refine wpQuiet_nil ?_; rintro _ ⟨u, rfl⟩; have hb := u.below; replace hB := hB.trans (hb.mono hB.size); generalize u.w = w' at *; obtain ⟨hc, hf, hs⟩ := bkeep hb; have hq' := hb.size; have hq := hB.size; have hb' := hb; clear hb)
              go_wp2
              go_returns
              exact ⟨by rw [HV.out]; rfl, hB0.trans (hB.mono hB0.size)⟩
            · have HN := Lib.hid (fst_miss HF.out (show atQ T t k = false from decide_eq_false ht))
              go_wp2
              go_roundw
              case rel => exact ⟨k + 1, by omega, by go_num, HN.out, cell_old (cell_off (cell_same g0) (by decide)) (lt_set (lt_set hg)), cell_old (cell_same (cell_off g1 (by decide))) (lt_set (lt_set hg)), by simp [World.frozen?_alloc_past, *], by simp [World.frozen?_alloc_past, *], by simp [World.setCell] at *; omega, by go_grown⟩
              case measure => simp [intOf]; omega
          · obtain rfl : k = m := by omega
            have HV := Lib.hid (place_end (Z := Z) (S := S) hf)
            clear hc hcz c0 d0 hf
            go_wp2
            go_returns
            exact ⟨by rw [HV.out]; rfl, hB0.trans (hB.mono hB0.size)⟩

end Go.Proofs.YtdhjnpjemaofoaaDoor
