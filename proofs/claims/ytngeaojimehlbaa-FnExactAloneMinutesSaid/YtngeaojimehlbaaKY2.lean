/-
  Contracts: valid workers.
-/
import Derived.Test.YtngeaojimehlbaaKX2
import Derived.Test.YtngeaojimehlbaaQu
namespace Go.Proofs.Ytngeaojimehlbaa
open Go.RowKit
set_option linter.unusedVariables false
set_option linter.unusedSimpArgs false

def wk1 (i : ByteArray) (f u : Int) : Bool := nameB i && (inB f 0 1440 && (inB u 0 1440 && decide (f < u)))
theorem wkOk_eq (I : Nat → ByteArray) (F U : Nat → Int) (k : Nat) : wkOk I F U k = wk1 (I k) (F k) (U k) := rfl
theorem validW_no {I : Nat → ByteArray} {F U : Nat → Int} {k n : Nat} (h : goodW I F U (k + 1) = false) (hk : k < n) : validW I F U n = false := by
  unfold validW; rw [goodW_no h hk]; rfl
theorem validW_all {I : Nat → ByteArray} {F U : Nat → Int} {n : Nat} (h : goodW I F U n = true) : validW I F U n = decide (n ≤ 12) := by
  unfold validW; rw [h]; rfl

theorem impl_isDayMinute (n : Int) (w : World) : Calls Try.prog 62 #[.int .i64 n] w fun e w' => e = .returned (.bool (inB n 0 1440)) ∧ w = w' := by
  go_enter Try.func62, Try.ntmps62
  go_wp2_with (go_at_call 37; go_call impl_within as e w' ⟨rfl, rfl⟩)
  go_returns
  exact ⟨rfl, rfl⟩

theorem spec_l14Minute (n : Int) (w : World) : Calls Try.prog 60 #[.int .i64 n] w fun e w' => e = .returned (.bool (inB n 0 1440)) ∧ w = w' := by
  go_enter Try.func60, Try.ntmps60
  go_wp2_with (go_at_call 32; go_call spec_l00In as e w' ⟨rfl, rfl⟩)
  go_returns
  exact ⟨rfl, rfl⟩

set_option maxHeartbeats 1000000 in
theorem impl_validWorker (i : ByteArray) (f u : Int) (w : World) (hs : i.size ≤ 9223372036854775807) : Calls Try.prog 71 #[.agg #[.string i, .int .i64 f, .int .i64 u]] w fun e w' => e = .returned (.bool (wk1 i f u)) ∧ Below w.heap.size w w' := by
  have kn := fun W => impl_IsName i W hs
  have kf := fun W => impl_isDayMinute f W
  have ku := fun W => impl_isDayMinute u W
  unfold wk1
  cases h1 : nameB i
  · rw [h1] at kn
    go_enter Try.func71, Try.ntmps71
    go_wp2_with (first | (go_at_call 74; (with_reducible refine (kn _).mono ?_); rintro e w' ⟨rfl, hb⟩; obtain ⟨hc, hf⟩ := bcell hb; have hz : w.heap.size < w'.heap.size := (by have := hb.size; (try simp at this); omega); have hB : Below w.heap.size w w' := Below.trans (by go_grown) (hb.mono (by go_size))))
    go_returns
    exact ⟨rfl, hB⟩
  · rw [h1] at kn
    cases h2 : inB f 0 1440
    · rw [h2] at kf
      go_enter Try.func71, Try.ntmps71
      go_wp2_with (first | (go_at_call 74; (with_reducible refine (kn _).mono ?_); rintro e w' ⟨rfl, hb⟩; obtain ⟨hc, hf⟩ := bcell hb; have hz : w.heap.size < w'.heap.size := (by have := hb.size; (try simp at this); omega); have hB : Below w.heap.size w w' := Below.trans (by go_grown) (hb.mono (by go_size))) | (go_at_call 62; (with_reducible refine (kf _).mono ?_); rintro e w' ⟨rfl, rfl⟩))
      go_returns
      exact ⟨rfl, hB⟩
    · rw [h2] at kf
      cases h3 : inB u 0 1440
      · rw [h3] at ku
        go_enter Try.func71, Try.ntmps71
        go_wp2_with (first | (go_at_call 74; (with_reducible refine (kn _).mono ?_); rintro e w' ⟨rfl, hb⟩; obtain ⟨hc, hf⟩ := bcell hb; have hz : w.heap.size < w'.heap.size := (by have := hb.size; (try simp at this); omega); have hB : Below w.heap.size w w' := Below.trans (by go_grown) (hb.mono (by go_size))) | (go_at_call 62; (with_reducible refine (kf _).mono ?_); rintro e w' ⟨rfl, rfl⟩) | (go_at_call 62; (with_reducible refine (ku _).mono ?_); rintro e w' ⟨rfl, rfl⟩))
        go_returns
        exact ⟨rfl, hB⟩
      · rw [h3] at ku
        go_enter Try.func71, Try.ntmps71
        go_wp2_with (first | (go_at_call 74; (with_reducible refine (kn _).mono ?_); rintro e w' ⟨rfl, hb⟩; obtain ⟨hc, hf⟩ := bcell hb; have hz : w.heap.size < w'.heap.size := (by have := hb.size; (try simp at this); omega); have hB : Below w.heap.size w w' := Below.trans (by go_grown) (hb.mono (by go_size))) | (go_at_call 62; (with_reducible refine (kf _).mono ?_); rintro e w' ⟨rfl, rfl⟩) | (go_at_call 62; (with_reducible refine (ku _).mono ?_); rintro e w' ⟨rfl, rfl⟩))
        go_returns
        exact ⟨rfl, hB⟩

set_option maxHeartbeats 2000000 in
theorem spec_l14Worker (b o : Nat) (i : ByteArray) (f u : Int) (w : World) (hs : i.size ≤ 9223372036854775807) (c0 : w.cell? ⟨b, o, none⟩ = some (.string i)) (c1 : w.cell? ⟨b, o + 1, none⟩ = some (.int .i64 f)) (c2 : w.cell? ⟨b, o + 2, none⟩ = some (.int .i64 u)) :
    Calls Try.prog 70 #[.pointer (some ⟨b, o, none⟩)] w fun e w' => e = .returned (.bool (wk1 i f u)) ∧ Below w.heap.size w w' := by
  have kn := fun W => spec_l01Name i W hs
  have kf := fun W => spec_l14Minute f W
  have ku := fun W => spec_l14Minute u W
  unfold wk1
  have hB := Below.refl w.heap.size w
  have hb1 : b < w.heap.size := World.block_lt_of_cell? w _ c0
  cases h1 : nameB i
  · rw [h1] at kn
    go_enter Try.func70, Try.ntmps70
    go_wp2
    (refine wp_region_cls (by kernel_rfl) (by kernel_rfl) ?_; (repeat (go_big_quiet_step ((go_at_call 73; exact cls_S (kn _))))); refine wpQuiet_nil ?_; rintro _ ⟨u, rfl⟩; have hb := u.below; replace hB := hB.trans (hb.mono hB.size); generalize u.w = w' at *; obtain ⟨hc, hf, hs⟩ := bkeep hb; have hq' := hb.size; have hq := hB.size; have hb' := hb; clear hb)
    go_wp2
    go_returns
    exact ⟨rfl, hB⟩
  · rw [h1] at kn
    cases h2 : inB f 0 1440
    · rw [h2] at kf
      go_enter Try.func70, Try.ntmps70
      go_wp2
      (refine wp_region_cls (by kernel_rfl) (by kernel_rfl) ?_; (repeat (go_big_quiet_step ((first | (go_at_call 73; exact cls_S (kn _)) | (go_at_call 60; with_reducible exact cls_S (kf _)))))); refine wpQuiet_nil ?_; rintro _ ⟨u, rfl⟩; have hb := u.below; replace hB := hB.trans (hb.mono hB.size); generalize u.w = w' at *; obtain ⟨hc, hf, hs⟩ := bkeep hb; have hq' := hb.size; have hq := hB.size; have hb' := hb; clear hb)
      go_wp2
      go_returns
      exact ⟨rfl, hB⟩
    · rw [h2] at kf
      cases h3 : inB u 0 1440
      · rw [h3] at ku
        go_enter Try.func70, Try.ntmps70
        go_wp2
        (refine wp_region_cls (by kernel_rfl) (by kernel_rfl) ?_; (repeat (go_big_quiet_step ((first | (go_at_call 73; exact cls_S (kn _)) | (go_at_call 60; with_reducible exact cls_S (kf _)) | (go_at_call 60; with_reducible exact cls_S (ku _)))))); refine wpQuiet_nil ?_; rintro _ ⟨u, rfl⟩; have hb := u.below; replace hB := hB.trans (hb.mono hB.size); generalize u.w = w' at *; obtain ⟨hc, hf, hs⟩ := bkeep hb; have hq' := hb.size; have hq := hB.size; have hb' := hb; clear hb)
        go_wp2
        go_returns
        exact ⟨rfl, hB⟩
      · rw [h3] at ku
        go_enter Try.func70, Try.ntmps70
        go_wp2
        (refine wp_region_cls (by kernel_rfl) (by kernel_rfl) ?_; (repeat (go_big_quiet_step ((first | (go_at_call 73; exact cls_S (kn _)) | (go_at_call 60; with_reducible exact cls_S (kf _)) | (go_at_call 60; with_reducible exact cls_S (ku _)))))); refine wpQuiet_nil ?_; rintro _ ⟨u, rfl⟩; have hb := u.below; replace hB := hB.trans (hb.mono hB.size); generalize u.w = w' at *; obtain ⟨hc, hf, hs⟩ := bkeep hb; have hq' := hb.size; have hq := hB.size; have hb' := hb; clear hb)
        go_wp2
        go_returns
        exact ⟨rfl, hB⟩

set_option maxHeartbeats 4000000 in
theorem impl_ValidWorkers_n (a : Option Addr) (n c : Nat) (I : Nat → ByteArray) (F U : Nat → Int) (w : World) (hz : WorkAt w a n I F U) (hn : szW I n ≤ 1048576) :
    Calls Try.prog 61 #[.slice a n c] w fun e w' => e = .returned (.bool (validW I F U n)) ∧ Below w.heap.size w w' := by
  have hnn := szW_n hn
  have hss := fun k h => szW_at (I := I) (n := n) (k := k) hn h
  have HS0 := Lib.hid hss
  clear hss hn
  go_enter Try.func61, Try.ntmps61
  go_wp2
  go_loopw [7] (fun i wr => ∃ k : Nat, k ≤ n ∧ i = .int .i64 k ∧ goodW I F U k = true ∧ Below w.heap.size w wr) (fun i _ => n - (intOf i).toNat)
  case atStart => exact ⟨0, by omega, rfl, rfl, Below.refl _ _⟩
  case round =>
    obtain ⟨k, hk, rfl, hr, hB⟩ := hrel
    by_cases hlt : k < n
    · obtain ⟨b, o, rfl, hb, hc⟩ := hz (by omega)
      have hq := hB.size
      have hst := goodW_step hr
      rw [wkOk_eq] at hst
      have hsz := HS0.out k hlt
      obtain ⟨c0, c1, c2⟩ := hc k hlt
      replace c0 := (hB.cell (p := ⟨b, o + k * 3, none⟩) hb).trans c0
      replace c1 := (hB.cell (p := ⟨b, o + k * 3 + 1, none⟩) hb).trans c1
      replace c2 := (hB.cell (p := ⟨b, o + k * 3 + 2, none⟩) hb).trans c2
      have hb1 : b < wr.heap.size := Nat.lt_of_lt_of_le hb hB.size
      have kv := fun W => impl_validWorker (I k) (F k) (U k) W (by omega)
      cases h1 : wk1 (I k) (F k) (U k)
      · have hfin := validW_no (by rw [hst, h1]; rfl) hlt
        rw [h1] at kv
        have H := Lib.hid hfin
        clear hfin hst hr h1 hc
        go_wp2
        (have Q0 : (wr.alloc (Obj.cells #[.string (I (k)), .int .i64 (F (k)), .int .i64 (U (k))] 57)).cell? ⟨wr.heap.size, 0, none⟩ = some (.string (I (k))) := (by go_simp); have Q1 : (wr.alloc (Obj.cells #[.string (I (k)), .int .i64 (F (k)), .int .i64 (U (k))] 57)).cell? ⟨wr.heap.size, 1, none⟩ = some (.int .i64 (F (k))) := (by go_simp); have Q2 : (wr.alloc (Obj.cells #[.string (I (k)), .int .i64 (F (k)), .int .i64 (U (k))] 57)).cell? ⟨wr.heap.size, 2, none⟩ = some (.int .i64 (U (k))) := (by go_simp); have Z3 : wr.heap.size < (wr.alloc (Obj.cells #[.string (I (k)), .int .i64 (F (k)), .int .i64 (U (k))] 57)).heap.size := (by first | omega | (simp; done) | (simp; omega)); have BB : Below w.heap.size w (wr.alloc (Obj.cells #[.string (I (k)), .int .i64 (F (k)), .int .i64 (U (k))] 57)) := (by go_grown); generalize wr.alloc (Obj.cells #[.string (I (k)), .int .i64 (F (k)), .int .i64 (U (k))] 57) = w2 at *)
        replace hB := BB
        generalize wr.heap.size = g at *
        (refine wp_region_cls (by kernel_rfl) (by kernel_rfl) ?_; (repeat (go_big_quiet_step ((go_at_call 71; exact cls_B (kv _))))); refine wpQuiet_nil ?_; rintro _ ⟨u, rfl⟩; have hb := u.below; replace hB := hB.trans (hb.mono hB.size); generalize u.w = w' at *; obtain ⟨hc, hf, hs⟩ := bkeep hb; have hq' := hb.size; have hq := hB.size; have hb' := hb; clear hb)
        go_wp2
        go_ret
        exact ⟨by rw [H.out]; rfl, hB⟩
      · rw [h1] at kv
        rw [h1, Bool.true_and] at hst
        rcases k with _ | j
        · have HS := Lib.hid (hst.trans (by rfl))
          clear hst hr h1 hc
          rw [Nat.zero_mul, Nat.add_zero] at c0 c1 c2
          go_wp2
          (have Q0 : (wr.alloc (Obj.cells #[.string (I (0)), .int .i64 (F (0)), .int .i64 (U (0))] 57)).cell? ⟨wr.heap.size, 0, none⟩ = some (.string (I (0))) := (by go_simp); have Q1 : (wr.alloc (Obj.cells #[.string (I (0)), .int .i64 (F (0)), .int .i64 (U (0))] 57)).cell? ⟨wr.heap.size, 1, none⟩ = some (.int .i64 (F (0))) := (by go_simp); have Q2 : (wr.alloc (Obj.cells #[.string (I (0)), .int .i64 (F (0)), .int .i64 (U (0))] 57)).cell? ⟨wr.heap.size, 2, none⟩ = some (.int .i64 (U (0))) := (by go_simp); have Z3 : wr.heap.size < (wr.alloc (Obj.cells #[.string (I (0)), .int .i64 (F (0)), .int .i64 (U (0))] 57)).heap.size := (by first | omega | (simp; done) | (simp; omega)); have BB : Below w.heap.size w (wr.alloc (Obj.cells #[.string (I (0)), .int .i64 (F (0)), .int .i64 (U (0))] 57)) := (by go_grown); generalize wr.alloc (Obj.cells #[.string (I (0)), .int .i64 (F (0)), .int .i64 (U (0))] 57) = w2 at *)
          replace hB := BB
          generalize wr.heap.size = g at *
          (refine wp_region_cls (by kernel_rfl) (by kernel_rfl) ?_; (repeat (go_big_quiet_step ((go_at_call 71; exact cls_B (kv _))))); refine wpQuiet_nil ?_; rintro _ ⟨u, rfl⟩; have hb := u.below; replace hB := hB.trans (hb.mono hB.size); generalize u.w = w' at *; obtain ⟨hc, hf, hs⟩ := bkeep hb; have hq' := hb.size; have hq := hB.size; have hb' := hb; clear hb)
          go_wp2
          go_roundw
          case rel => exact ⟨1, by omega, by go_num, HS.out, hB⟩
          case measure => simp [intOf]; omega
        · obtain ⟨d0, d1, d2⟩ := hc j (by omega)
          replace d0 := (hB.cell (p := ⟨b, o + j * 3, none⟩) hb).trans d0
          have i0 : (0 : Int) ≤ (j : Int) := by omega
          have i1 : (j : Int) + 1 < (n : Int) := by omega
          have hst2 : goodW I F U (j + 1 + 1) = sLt (I j) (I (j + 1)) := hst
          have hle := sLe_not (I (j + 1)) (I j)
          clear hst hr h1 hc d1 d2
          cases h3 : sLt (I j) (I (j + 1))
          · have hfin := validW_no (hst2.trans h3) hlt
            rw [h3] at hle
            have H := Lib.hid hfin
            clear hfin hst2 h3
            go_wp2
            have p0 := cell_old (O := Obj.cells #[.string (I (j + 1)), .int .i64 (F (j + 1)), .int .i64 (U (j + 1))] 57) d0 hb1
            have hb2 : b < (wr.alloc (Obj.cells #[.string (I (j + 1)), .int .i64 (F (j + 1)), .int .i64 (U (j + 1))] 57)).heap.size := lt_alloc hb1
            (have Q0 : (wr.alloc (Obj.cells #[.string (I (j + 1)), .int .i64 (F (j + 1)), .int .i64 (U (j + 1))] 57)).cell? ⟨wr.heap.size, 0, none⟩ = some (.string (I (j + 1))) := (by go_simp); have Q1 : (wr.alloc (Obj.cells #[.string (I (j + 1)), .int .i64 (F (j + 1)), .int .i64 (U (j + 1))] 57)).cell? ⟨wr.heap.size, 1, none⟩ = some (.int .i64 (F (j + 1))) := (by go_simp); have Q2 : (wr.alloc (Obj.cells #[.string (I (j + 1)), .int .i64 (F (j + 1)), .int .i64 (U (j + 1))] 57)).cell? ⟨wr.heap.size, 2, none⟩ = some (.int .i64 (U (j + 1))) := (by go_simp); have Z3 : wr.heap.size < (wr.alloc (Obj.cells #[.string (I (j + 1)), .int .i64 (F (j + 1)), .int .i64 (U (j + 1))] 57)).heap.size := (by first | omega | (simp; done) | (simp; omega)); have BB : Below w.heap.size w (wr.alloc (Obj.cells #[.string (I (j + 1)), .int .i64 (F (j + 1)), .int .i64 (U (j + 1))] 57)) := (by go_grown); generalize wr.alloc (Obj.cells #[.string (I (j + 1)), .int .i64 (F (j + 1)), .int .i64 (U (j + 1))] 57) = w2 at *)
            replace hB := BB
            generalize wr.heap.size = g at *
            (refine wp_region_cls (by kernel_rfl) (by kernel_rfl) ?_; (repeat (go_big_quiet_step ((go_at_call 71; exact cls_B (kv _))))); refine wpQuiet_nil ?_; rintro _ ⟨u, rfl⟩; have hb := u.below; replace hB := hB.trans (hb.mono hB.size); generalize u.w = w' at *; obtain ⟨hc, hf, hs⟩ := bkeep hb; have hq' := hb.size; have hq := hB.size; have hb' := hb; clear hb)
            go_wp2
            go_ret
            exact ⟨by rw [H.out]; rfl, hB⟩
          · have HS := Lib.hid (hst2.trans h3)
            rw [h3] at hle
            clear hst2 h3
            go_wp2
            have p0 := cell_old (O := Obj.cells #[.string (I (j + 1)), .int .i64 (F (j + 1)), .int .i64 (U (j + 1))] 57) d0 hb1
            have hb2 : b < (wr.alloc (Obj.cells #[.string (I (j + 1)), .int .i64 (F (j + 1)), .int .i64 (U (j + 1))] 57)).heap.size := lt_alloc hb1
            (have Q0 : (wr.alloc (Obj.cells #[.string (I (j + 1)), .int .i64 (F (j + 1)), .int .i64 (U (j + 1))] 57)).cell? ⟨wr.heap.size, 0, none⟩ = some (.string (I (j + 1))) := (by go_simp); have Q1 : (wr.alloc (Obj.cells #[.string (I (j + 1)), .int .i64 (F (j + 1)), .int .i64 (U (j + 1))] 57)).cell? ⟨wr.heap.size, 1, none⟩ = some (.int .i64 (F (j + 1))) := (by go_simp); have Q2 : (wr.alloc (Obj.cells #[.string (I (j + 1)), .int .i64 (F (j + 1)), .int .i64 (U (j + 1))] 57)).cell? ⟨wr.heap.size, 2, none⟩ = some (.int .i64 (U (j + 1))) := (by go_simp); have Z3 : wr.heap.size < (wr.alloc (Obj.cells #[.string (I (j + 1)), .int .i64 (F (j + 1)), .int .i64 (U (j + 1))] 57)).heap.size := (by first | omega | (simp; done) | (simp; omega)); have BB : Below w.heap.size w (wr.alloc (Obj.cells #[.string (I (j + 1)), .int .i64 (F (j + 1)), .int .i64 (U (j + 1))] 57)) := (by go_grown); generalize wr.alloc (Obj.cells #[.string (I (j + 1)), .int .i64 (F (j + 1)), .int .i64 (U (j + 1))] 57) = w2 at *)
            replace hB := BB
            generalize wr.heap.size = g at *
            (refine wp_region_cls (by kernel_rfl) (by kernel_rfl) ?_; (repeat (go_big_quiet_step ((go_at_call 71; exact cls_B (kv _))))); refine wpQuiet_nil ?_; rintro _ ⟨u, rfl⟩; have hb := u.below; replace hB := hB.trans (hb.mono hB.size); generalize u.w = w' at *; obtain ⟨hc, hf, hs⟩ := bkeep hb; have hq' := hb.size; have hq := hB.size; have hb' := hb; clear hb)
            go_wp2
            go_roundw
            case rel => exact ⟨j + 1 + 1, by omega, by go_num, HS.out, hB⟩
            case measure => simp [intOf]; omega
    · obtain rfl : k = n := by omega
      have H := Lib.hid (validW_all hr)
      clear hr
      by_cases h12 : k ≤ 12
      · have g1 : decide ((k : Int) ≤ 12) = true := decide_eq_true (by omega)
        have G := Lib.hid (decide_eq_true h12)
        go_wp2
        go_ret
        exact ⟨by rw [H.out, G.out]; rfl, hB⟩
      · have g1 : decide ((k : Int) ≤ 12) = false := decide_eq_false (by omega)
        have G := Lib.hid (decide_eq_false h12)
        go_wp2
        go_ret
        exact ⟨by rw [H.out, G.out]; rfl, hB⟩

set_option maxHeartbeats 4000000 in
theorem spec_l14Workers (a : Option Addr) (n c : Nat) (I : Nat → ByteArray) (F U : Nat → Int) (w : World) (hz : WorkAt w a n I F U) (hn : szW I n ≤ 1048576) :
    Calls Try.prog 59 #[.slice a n c] w fun e w' => e = .returned (.bool (validW I F U n)) ∧ Below w.heap.size w w' := by
  have hnn := szW_n hn
  have hss := fun k h => szW_at (I := I) (n := n) (k := k) hn h
  have HS0 := Lib.hid hss
  clear hss hn
  go_enter Try.func59, Try.ntmps59
  go_wp2
  go_loopw [3] (fun i wr => ∃ k : Nat, k ≤ n ∧ i = .int .i64 k ∧ goodW I F U k = true ∧ Below w.heap.size w wr) (fun i _ => n - (intOf i).toNat)
  case atStart => exact ⟨0, by omega, rfl, rfl, Below.refl _ _⟩
  case round =>
    obtain ⟨k, hk, rfl, hr, hB⟩ := hrel
    by_cases hlt : k < n
    · obtain ⟨b, o, rfl, hb, hc⟩ := hz (by omega)
      have hst := goodW_step hr
      rw [wkOk_eq] at hst
      have hsz := HS0.out k hlt
      obtain ⟨c0, c1, c2⟩ := hc k hlt
      replace c0 := (hB.cell (p := ⟨b, o + k * 3, none⟩) hb).trans c0
      replace c1 := (hB.cell (p := ⟨b, o + k * 3 + 1, none⟩) hb).trans c1
      replace c2 := (hB.cell (p := ⟨b, o + k * 3 + 2, none⟩) hb).trans c2
      have hb1 : b < wr.heap.size := Nat.lt_of_lt_of_le hb hB.size
      have hk0 : (0 : Int) ≤ (k : Int) := by omega
      have hk1 : (k : Int) < (n : Int) := by omega
      have kv := fun W h0 h1 h2 => spec_l14Worker b (o + k * 3) (I k) (F k) (U k) W (by omega) h0 h1 h2
      cases h1 : wk1 (I k) (F k) (U k)
      · have hfin := validW_no (by rw [hst, h1]; rfl) hlt
        rw [h1] at kv
        have H := Lib.hid hfin
        clear hfin hst hr h1 hc
        go_wp2
        (refine wp_region_cls (by kernel_rfl) (by kernel_rfl) ?_; (repeat (go_big_quiet_step ((go_at_call 70; exact cls_B (kv _ ((cls_cell _ _ _ _ hb1).trans c0) ((cls_cell _ _ _ _ hb1).trans c1) ((cls_cell _ _ _ _ hb1).trans c2)))))); refine wpQuiet_nil ?_; rintro _ ⟨u, rfl⟩; have hb := u.below; replace hB := hB.trans (hb.mono hB.size); generalize u.w = w' at *; obtain ⟨hc, hf, hs⟩ := bkeep hb; have hq' := hb.size; have hq := hB.size; have hb' := hb; clear hb)
        go_wp2
        go_ret
        exact ⟨by rw [H.out]; rfl, hB⟩
      · rw [h1] at kv
        rw [h1, Bool.true_and] at hst
        rcases k with _ | j
        · have HS := Lib.hid (hst.trans (by rfl))
          clear hst hr h1 hc
          rw [Nat.zero_mul, Nat.add_zero] at c0 c1 c2 kv
          go_wp2
          (refine wp_region_cls (by kernel_rfl) (by kernel_rfl) ?_; (repeat (go_big_quiet_step ((go_at_call 70; exact cls_B (kv _ ((cls_cell _ _ _ _ hb1).trans c0) ((cls_cell _ _ _ _ hb1).trans c1) ((cls_cell _ _ _ _ hb1).trans c2)))))); refine wpQuiet_nil ?_; rintro _ ⟨u, rfl⟩; have hb := u.below; replace hB := hB.trans (hb.mono hB.size); generalize u.w = w' at *; obtain ⟨hc, hf, hs⟩ := bkeep hb; have hq' := hb.size; have hq := hB.size; have hb' := hb; clear hb)
          go_wp2
          go_roundw
          case rel => exact ⟨1, by omega, by go_num, HS.out, hB⟩
          case measure => simp [intOf]; omega
        · obtain ⟨d0, d1, d2⟩ := hc j (by omega)
          replace d0 := (hB.cell (p := ⟨b, o + j * 3, none⟩) hb).trans d0
          have i0 : (0 : Int) ≤ (j : Int) := by omega
          have i1 : (j : Int) + 1 < (n : Int) := by omega
          have hst2 : goodW I F U (j + 1 + 1) = sLt (I j) (I (j + 1)) := hst
          clear hst hr h1 hc d1 d2
          cases h3 : sLt (I j) (I (j + 1))
          · have hfin := validW_no (hst2.trans h3) hlt
            have H := Lib.hid hfin
            unfold sLt at h3
            clear hfin hst2
            go_wp2
            (refine wp_region_cls (by kernel_rfl) (by kernel_rfl) ?_; (repeat (go_big_quiet_step ((go_at_call 70; exact cls_B (kv _ ((cls_cell _ _ _ _ hb1).trans c0) ((cls_cell _ _ _ _ hb1).trans c1) ((cls_cell _ _ _ _ hb1).trans c2)))))); refine wpQuiet_nil ?_; rintro _ ⟨u, rfl⟩; have hb := u.below; replace hB := hB.trans (hb.mono hB.size); generalize u.w = w' at *; obtain ⟨hc, hf, hs⟩ := bkeep hb; have hq' := hb.size; have hq := hB.size; have hb' := hb; clear hb)
            go_wp2
            go_ret
            exact ⟨by rw [H.out]; rfl, hB⟩
          · have HS := Lib.hid (hst2.trans h3)
            unfold sLt at h3
            clear hst2
            go_wp2
            (refine wp_region_cls (by kernel_rfl) (by kernel_rfl) ?_; (repeat (go_big_quiet_step ((go_at_call 70; exact cls_B (kv _ ((cls_cell _ _ _ _ hb1).trans c0) ((cls_cell _ _ _ _ hb1).trans c1) ((cls_cell _ _ _ _ hb1).trans c2)))))); refine wpQuiet_nil ?_; rintro _ ⟨u, rfl⟩; have hb := u.below; replace hB := hB.trans (hb.mono hB.size); generalize u.w = w' at *; obtain ⟨hc, hf, hs⟩ := bkeep hb; have hq' := hb.size; have hq := hB.size; have hb' := hb; clear hb)
            go_wp2
            go_roundw
            case rel => exact ⟨j + 1 + 1, by omega, by go_num, HS.out, hB⟩
            case measure => simp [intOf]; omega
    · obtain rfl : k = n := by omega
      have H := Lib.hid (validW_all hr)
      clear hr
      by_cases h12 : k ≤ 12
      · have g1 : decide ((k : Int) ≤ 12) = true := decide_eq_true (by omega)
        have G := Lib.hid (decide_eq_true h12)
        go_wp2
        go_ret
        exact ⟨by rw [H.out, G.out]; rfl, hB⟩
      · have g1 : decide ((k : Int) ≤ 12) = false := decide_eq_false (by omega)
        have G := Lib.hid (decide_eq_false h12)
        go_wp2
        go_ret
        exact ⟨by rw [H.out, G.out]; rfl, hB⟩

theorem impl_ValidWorkers (a : Option Addr) (n c : Nat) (I : Nat → ByteArray) (F U : Nat → Int) (w : World) (hz : WorkAt w a n I F U) (hn : szW I n ≤ 1048576) :
    Calls Try.prog 61 #[.slice a n c] w fun e w' => e = .returned (.bool (validW I F U n)) ∧ Below w.heap.size w w' := impl_ValidWorkers_n a n c I F U w hz hn

end Go.Proofs.Ytngeaojimehlbaa
