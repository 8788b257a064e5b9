/-
  Contracts: valid passings.
-/
import Derived.Test.YtdhjnpjemaofoaaDoorKQ
import Derived.Test.YtdhjnpjemaofoaaDoorKR
import Derived.Test.YtdhjnpjemaofoaaDoorM1
namespace Go.Proofs.YtdhjnpjemaofoaaDoor
open Go.RowKit
set_option linter.unusedVariables false
set_option linter.unusedSimpArgs false


set_option maxHeartbeats 4000000 in
theorem impl_ValidPassings (a : Option Addr) (n c : Nat) (Z : Nat → Int) (a' : Option Addr) (m c' : Nat) (S T : Nat → Int) (w : World) (hz : IntsAt w a n Z) (hy : PassAt w a' m S T) (hn : n ≤ 1048576) (hm : m ≤ 1048576) :
    Calls Tryd.prog 23 #[.slice a n c, .slice a' m c'] w fun e w' => e = .returned (.bool (passOk Z n S T m)) ∧ Below w.heap.size w w' := by
  have kv := fun W h => impl_ValidPlaces a n c Z W h hn
  have ks := fun W => impl_size_int64 a n c W hn
  have hz2 := hz
  go_enter Tryd.func23, Tryd.ntmps23
  go_wp2
  go_loopw [9] (fun i wr => ∃ k : Nat, k ≤ m ∧ i = .int .i64 k ∧ goodP n S T k = true ∧ Below w.heap.size w wr) (fun i _ => m - (intOf i).toNat)
  case atStart => exact ⟨0, by omega, rfl, rfl, Below.refl _ _⟩
  case round =>
    obtain ⟨k, hk, rfl, hr, hB⟩ := hrel
    by_cases hlt : k < m
    · obtain ⟨b, o, rfl, hb, hc⟩ := hy (by omega)
      have hq := hB.size
      have hst := goodP_step hr
      obtain ⟨c0, c1⟩ := hc k hlt
      replace c0 := (hB.cell (p := ⟨b, o + k * 2, none⟩) hb).trans c0
      replace c1 := (hB.cell (p := ⟨b, o + k * 2 + 1, none⟩) hb).trans c1
      have hb1 : b < wr.heap.size := Nat.lt_of_lt_of_le hb hB.size
      have kw := fun W => impl_within (S k) 0 ((n : Int) - 1) W
      have k2 := fun W => impl_isSecond (T k) W
      have hw1 : IntKind.i64.wrap ((n : Int) - 1) = (n : Int) - 1 := IntWalk.i64_in _ (by omega)
      cases h1 : inB (S k) 0 ((n : Int) - 1)
      · have hfin := passOk_no (Z := Z) (m := m) (by rw [hst, h1]; rfl) hlt
        rw [h1] at kw
        have H := Lib.hid hfin
        clear hfin hst hr h1 hc
        go_wp2
        (have Q0 : (wr.alloc (Obj.cells #[.int .i64 (S (k)), .int .i64 (T (k))] 53)).cell? ⟨wr.heap.size, 0, none⟩ = some (.int .i64 (S (k))) := (by go_simp); have Q1 : (wr.alloc (Obj.cells #[.int .i64 (S (k)), .int .i64 (T (k))] 53)).cell? ⟨wr.heap.size, 1, none⟩ = some (.int .i64 (T (k))) := (by go_simp); have Z2 : wr.heap.size < (wr.alloc (Obj.cells #[.int .i64 (S (k)), .int .i64 (T (k))] 53)).heap.size := (by first | omega | (simp; done) | (simp; omega)); have BB : Below w.heap.size w (wr.alloc (Obj.cells #[.int .i64 (S (k)), .int .i64 (T (k))] 53)) := (by go_grown); generalize wr.alloc (Obj.cells #[.int .i64 (S (k)), .int .i64 (T (k))] 53) = w2 at *)
        replace hB := BB
        generalize wr.heap.size = g at *
        (refine wp_region_cls (by kernel_rfl) (by kernel_rfl) ?_; (repeat (go_big_quiet_step ((first | (go_at_call 50; exact cls_S (ks _)) | (go_at_call 51; exact cls_S (kw _)) | (go_at_call 52; exact cls_S (k2 _)))))); refine wpQuiet_nil ?_; rintro _ ⟨u, rfl⟩; have hb := u.below; replace hB := hB.trans (hb.mono hB.size); generalize u.w = w' at *; obtain ⟨hc, hf, hs⟩ := bkeep hb; have hq' := hb.size; have hq := hB.size; have hb' := hb; clear hb)
        go_wp2
        go_ret
        exact ⟨by rw [H.out]; rfl, hB⟩
      · rw [h1] at kw
        cases h2 : inB (T k) 0 1000000
        · have hfin := passOk_no (Z := Z) (m := m) (by rw [hst, h1, h2]; rfl) hlt
          rw [h2] at k2
          have H := Lib.hid hfin
          clear hfin hst hr h1 hc h2
          go_wp2
          (have Q0 : (wr.alloc (Obj.cells #[.int .i64 (S (k)), .int .i64 (T (k))] 53)).cell? ⟨wr.heap.size, 0, none⟩ = some (.int .i64 (S (k))) := (by go_simp); have Q1 : (wr.alloc (Obj.cells #[.int .i64 (S (k)), .int .i64 (T (k))] 53)).cell? ⟨wr.heap.size, 1, none⟩ = some (.int .i64 (T (k))) := (by go_simp); have Z2 : wr.heap.size < (wr.alloc (Obj.cells #[.int .i64 (S (k)), .int .i64 (T (k))] 53)).heap.size := (by first | omega | (simp; done) | (simp; omega)); have BB : Below w.heap.size w (wr.alloc (Obj.cells #[.int .i64 (S (k)), .int .i64 (T (k))] 53)) := (by go_grown); generalize wr.alloc (Obj.cells #[.int .i64 (S (k)), .int .i64 (T (k))] 53) = w2 at *)
          replace hB := BB
          generalize wr.heap.size = g at *
          (refine wp_region_cls (by kernel_rfl) (by kernel_rfl) ?_; (repeat (go_big_quiet_step ((first | (go_at_call 50; exact cls_S (ks _)) | (go_at_call 51; exact cls_S (kw _)) | (go_at_call 52; exact cls_S (k2 _)))))); refine wpQuiet_nil ?_; rintro _ ⟨u, rfl⟩; have hb := u.below; replace hB := hB.trans (hb.mono hB.size); generalize u.w = w' at *; obtain ⟨hc, hf, hs⟩ := bkeep hb; have hq' := hb.size; have hq := hB.size; have hb' := hb; clear hb)
          go_wp2
          go_ret
          exact ⟨by rw [H.out]; rfl, hB⟩
        · rw [h2] at k2
          rw [h1, h2, Bool.true_and, Bool.true_and] at hst
          rcases k with _ | j
          · have HS := Lib.hid (hst.trans (by rfl))
            clear hst hr h1 hc h2
            rw [Nat.zero_mul, Nat.add_zero] at c0 c1
            go_wp2
            (have Q0 : (wr.alloc (Obj.cells #[.int .i64 (S (0)), .int .i64 (T (0))] 53)).cell? ⟨wr.heap.size, 0, none⟩ = some (.int .i64 (S (0))) := (by go_simp); have Q1 : (wr.alloc (Obj.cells #[.int .i64 (S (0)), .int .i64 (T (0))] 53)).cell? ⟨wr.heap.size, 1, none⟩ = some (.int .i64 (T (0))) := (by go_simp); have Z2 : wr.heap.size < (wr.alloc (Obj.cells #[.int .i64 (S (0)), .int .i64 (T (0))] 53)).heap.size := (by first | omega | (simp; done) | (simp; omega)); have BB : Below w.heap.size w (wr.alloc (Obj.cells #[.int .i64 (S (0)), .int .i64 (T (0))] 53)) := (by go_grown); generalize wr.alloc (Obj.cells #[.int .i64 (S (0)), .int .i64 (T (0))] 53) = w2 at *)
            replace hB := BB
            generalize wr.heap.size = g at *
            (refine wp_region_cls (by kernel_rfl) (by kernel_rfl) ?_; (repeat (go_big_quiet_step ((first | (go_at_call 50; exact cls_S (ks _)) | (go_at_call 51; exact cls_S (kw _)) | (go_at_call 52; exact cls_S (k2 _)))))); refine wpQuiet_nil ?_; rintro _ ⟨u, rfl⟩; have hb := u.below; replace hB := hB.trans (hb.mono hB.size); generalize u.w = w' at *; obtain ⟨hc, hf, hs⟩ := bkeep hb; have hq' := hb.size; have hq := hB.size; have hb' := hb; clear hb)
            go_wp2
            (refine wp_region_cls (by kernel_rfl) (by kernel_rfl) ?_; (repeat (go_big_quiet_step (fail))); refine wpQuiet_nil ?_; rintro _ ⟨u, rfl⟩; have hb := u.below; replace hB := hB.trans (hb.mono hB.size); generalize u.w = w' at *; obtain ⟨hc, hf, hs⟩ := bkeep hb; have hq' := hb.size; have hq := hB.size; have hb' := hb; clear hb)
            go_wp2
            go_roundw
            case rel => exact ⟨1, by omega, by go_num, HS.out, hB⟩
            case measure => simp [intOf]; omega
          · obtain ⟨d0, d1⟩ := hc j (by omega)
            replace d0 := (hB.cell (p := ⟨b, o + j * 2, none⟩) hb).trans d0
            replace d1 := (hB.cell (p := ⟨b, o + j * 2 + 1, none⟩) hb).trans d1
            have i0 : (0 : Int) ≤ (j : Int) := by omega
            have i1 : (j : Int) + 1 < (m : Int) := by omega
            have hst2 : goodP n S T (j + 1 + 1) = (decide (T j < T (j + 1)) && !(S (j + 1) == S j)) := hst
            clear hst hr h1 hc h2
            by_cases h3 : T j < T (j + 1)
            · have h3b : decide (T (j + 1) ≤ T j) = false := by simp; omega
              cases h4 : (S (j + 1) == S j)
              · have HS := Lib.hid (hst2.trans (show _ = true by rw [h4, decide_eq_true h3]; rfl))
                clear hst2
                go_wp2
                have p0 := cell_old (O := Obj.cells #[.int .i64 (S (j + 1)), .int .i64 (T (j + 1))] 53) d0 hb1
                have p1 := cell_old (O := Obj.cells #[.int .i64 (S (j + 1)), .int .i64 (T (j + 1))] 53) d1 hb1
                have hb2 : b < (wr.alloc (Obj.cells #[.int .i64 (S (j + 1)), .int .i64 (T (j + 1))] 53)).heap.size := lt_alloc hb1
                (have Q0 : (wr.alloc (Obj.cells #[.int .i64 (S (j + 1)), .int .i64 (T (j + 1))] 53)).cell? ⟨wr.heap.size, 0, none⟩ = some (.int .i64 (S (j + 1))) := (by go_simp); have Q1 : (wr.alloc (Obj.cells #[.int .i64 (S (j + 1)), .int .i64 (T (j + 1))] 53)).cell? ⟨wr.heap.size, 1, none⟩ = some (.int .i64 (T (j + 1))) := (by go_simp); have Z2 : wr.heap.size < (wr.alloc (Obj.cells #[.int .i64 (S (j + 1)), .int .i64 (T (j + 1))] 53)).heap.size := (by first | omega | (simp; done) | (simp; omega)); have BB : Below w.heap.size w (wr.alloc (Obj.cells #[.int .i64 (S (j + 1)), .int .i64 (T (j + 1))] 53)) := (by go_grown); generalize wr.alloc (Obj.cells #[.int .i64 (S (j + 1)), .int .i64 (T (j + 1))] 53) = w2 at *)
                replace hB := BB
                generalize wr.heap.size = g at *
                (refine wp_region_cls (by kernel_rfl) (by kernel_rfl) ?_; (repeat (go_big_quiet_step ((first | (go_at_call 50; exact cls_S (ks _)) | (go_at_call 51; exact cls_S (kw _)) | (go_at_call 52; exact cls_S (k2 _)))))); refine wpQuiet_nil ?_; rintro _ ⟨u, rfl⟩; have hb := u.below; replace hB := hB.trans (hb.mono hB.size); generalize u.w = w' at *; obtain ⟨hc, hf, hs⟩ := bkeep hb; have hq' := hb.size; have hq := hB.size; have hb' := hb; clear hb)
                go_wp2
                (refine wp_region_cls (by kernel_rfl) (by kernel_rfl) ?_; (repeat (go_big_quiet_step (fail))); refine wpQuiet_nil ?_; rintro _ ⟨u, rfl⟩; have hb := u.below; replace hB := hB.trans (hb.mono hB.size); generalize u.w = w' at *; obtain ⟨hc, hf, hs⟩ := bkeep hb; have hq' := hb.size; have hq := hB.size; have hb' := hb; clear hb)
                go_wp2
                go_roundw
                case rel => exact ⟨j + 1 + 1, by omega, by go_num, HS.out, hB⟩
                case measure => simp [intOf]; omega
              · have hfin := passOk_no (Z := Z) (m := m) (hst2.trans (show _ = false by rw [h4]; simp)) hlt
                have H := Lib.hid hfin
                clear hfin hst2
                go_wp2
                have p0 := cell_old (O := Obj.cells #[.int .i64 (S (j + 1)), .int .i64 (T (j + 1))] 53) d0 hb1
                have p1 := cell_old (O := Obj.cells #[.int .i64 (S (j + 1)), .int .i64 (T (j + 1))] 53) d1 hb1
                have hb2 : b < (wr.alloc (Obj.cells #[.int .i64 (S (j + 1)), .int .i64 (T (j + 1))] 53)).heap.size := lt_alloc hb1
                (have Q0 : (wr.alloc (Obj.cells #[.int .i64 (S (j + 1)), .int .i64 (T (j + 1))] 53)).cell? ⟨wr.heap.size, 0, none⟩ = some (.int .i64 (S (j + 1))) := (by go_simp); have Q1 : (wr.alloc (Obj.cells #[.int .i64 (S (j + 1)), .int .i64 (T (j + 1))] 53)).cell? ⟨wr.heap.size, 1, none⟩ = some (.int .i64 (T (j + 1))) := (by go_simp); have Z2 : wr.heap.size < (wr.alloc (Obj.cells #[.int .i64 (S (j + 1)), .int .i64 (T (j + 1))] 53)).heap.size := (by first | omega | (simp; done) | (simp; omega)); have BB : Below w.heap.size w (wr.alloc (Obj.cells #[.int .i64 (S (j + 1)), .int .i64 (T (j + 1))] 53)) := (by go_grown); generalize wr.alloc (Obj.cells #[.int .i64 (S (j + 1)), .int .i64 (T (j + 1))] 53) = w2 at *)
                replace hB := BB
                generalize wr.heap.size = g at *
                (refine wp_region_cls (by kernel_rfl) (by kernel_rfl) ?_; (repeat (go_big_quiet_step ((first | (go_at_call 50; exact cls_S (ks _)) | (go_at_call 51; exact cls_S (kw _)) | (go_at_call 52; exact cls_S (k2 _)))))); refine wpQuiet_nil ?_; rintro _ ⟨u, rfl⟩; have hb := u.below; replace hB := hB.trans (hb.mono hB.size); generalize u.w = w' at *; obtain ⟨hc, hf, hs⟩ := bkeep hb; have hq' := hb.size; have hq := hB.size; have hb' := hb; clear hb)
                go_wp2
                (refine wp_region_cls (by kernel_rfl) (by kernel_rfl) ?_; (repeat (go_big_quiet_step (fail))); refine wpQuiet_nil ?_; rintro _ ⟨u, rfl⟩; have hb := u.below; replace hB := hB.trans (hb.mono hB.size); generalize u.w = w' at *; obtain ⟨hc, hf, hs⟩ := bkeep hb; have hq' := hb.size; have hq := hB.size; have hb' := hb; clear hb)
                go_wp2
                go_ret
                exact ⟨by rw [H.out]; rfl, hB⟩
            · have hfin := passOk_no (Z := Z) (m := m) (hst2.trans (show _ = false by rw [decide_eq_false h3]; rfl)) hlt
              have h3b : decide (T (j + 1) ≤ T j) = true := by simp; omega
              have H := Lib.hid hfin
              clear hfin hst2
              go_wp2
              have p0 := cell_old (O := Obj.cells #[.int .i64 (S (j + 1)), .int .i64 (T (j + 1))] 53) d0 hb1
              have p1 := cell_old (O := Obj.cells #[.int .i64 (S (j + 1)), .int .i64 (T (j + 1))] 53) d1 hb1
              have hb2 : b < (wr.alloc (Obj.cells #[.int .i64 (S (j + 1)), .int .i64 (T (j + 1))] 53)).heap.size := lt_alloc hb1
              (have Q0 : (wr.alloc (Obj.cells #[.int .i64 (S (j + 1)), .int .i64 (T (j + 1))] 53)).cell? ⟨wr.heap.size, 0, none⟩ = some (.int .i64 (S (j + 1))) := (by go_simp); have Q1 : (wr.alloc (Obj.cells #[.int .i64 (S (j + 1)), .int .i64 (T (j + 1))] 53)).cell? ⟨wr.heap.size, 1, none⟩ = some (.int .i64 (T (j + 1))) := (by go_simp); have Z2 : wr.heap.size < (wr.alloc (Obj.cells #[.int .i64 (S (j + 1)), .int .i64 (T (j + 1))] 53)).heap.size := (by first | omega | (simp; done) | (simp; omega)); have BB : Below w.heap.size w (wr.alloc (Obj.cells #[.int .i64 (S (j + 1)), .int .i64 (T (j + 1))] 53)) := (by go_grown); generalize wr.alloc (Obj.cells #[.int .i64 (S (j + 1)), .int .i64 (T (j + 1))] 53) = w2 at *)
              replace hB := BB
              generalize wr.heap.size = g at *
              (refine wp_region_cls (by kernel_rfl) (by kernel_rfl) ?_; (repeat (go_big_quiet_step ((first | (go_at_call 50; exact cls_S (ks _)) | (go_at_call 51; exact cls_S (kw _)) | (go_at_call 52; exact cls_S (k2 _)))))); refine wpQuiet_nil ?_; rintro _ ⟨u, rfl⟩; have hb := u.below; replace hB := hB.trans (hb.mono hB.size); generalize u.w = w' at *; obtain ⟨hc, hf, hs⟩ := bkeep hb; have hq' := hb.size; have hq := hB.size; have hb' := hb; clear hb)
              go_wp2
              (refine wp_region_cls (by kernel_rfl) (by kernel_rfl) ?_; (repeat (go_big_quiet_step (fail))); refine wpQuiet_nil ?_; rintro _ ⟨u, rfl⟩; have hb := u.below; replace hB := hB.trans (hb.mono hB.size); generalize u.w = w' at *; obtain ⟨hc, hf, hs⟩ := bkeep hb; have hq' := hb.size; have hq := hB.size; have hb' := hb; clear hb)
              go_wp2
              go_ret
              exact ⟨by rw [H.out]; rfl, hB⟩
    · obtain rfl : k = m := by omega
      have H := Lib.hid (passOk_all (Z := Z) hr)
      clear hr
      have hzr := hz2.below hB
      rw [show (rises Z 0 4000000 n && decide (n ≤ 16)) = placesOk Z n from rfl] at kv
      cases hp : placesOk Z n
      · rw [hp] at kv
        have HP := Lib.hid hp
        clear hp
        go_wp2_with (go_at_call 53; (with_reducible refine (kv _ hzr).mono ?_); rintro e w' ⟨rfl, rfl⟩)
        go_ret
        exact ⟨by rw [H.out, HP.out]; rfl, hB⟩
      · rw [hp] at kv
        have HP := Lib.hid hp
        clear hp
        go_wp2_with (go_at_call 53; (with_reducible refine (kv _ hzr).mono ?_); rintro e w' ⟨rfl, rfl⟩)
        go_ret
        exact ⟨by rw [H.out, HP.out]; simp; omega, hB⟩

set_option maxHeartbeats 4000000 in
theorem spec_l12Ok (a : Option Addr) (n c : Nat) (Z : Nat → Int) (a' : Option Addr) (m c' : Nat) (S T : Nat → Int) (w : World) (hz : IntsAt w a n Z) (hy : PassAt w a' m S T) (hn : n ≤ 1048576) (hm : m ≤ 1048576) :
    Calls Tryd.prog 54 #[.slice a n c, .slice a' m c'] w fun e w' => e = .returned (.bool (passOk Z n S T m)) ∧ Below w.heap.size w w' := by
  have kv := fun W h => spec_l12Places a n c Z W h hn
  rw [show (rises Z 0 4000000 n && decide (n ≤ 16)) = placesOk Z n from rfl] at kv
  cases hp : placesOk Z n
  · rw [show passOk Z n S T m = false by unfold passOk; rw [hp]; rfl]
    rw [hp] at kv
    clear hp
    go_enter Tryd.func54, Tryd.ntmps54
    go_wp2_with (go_at_call 72; (with_reducible refine (kv _ hz).mono ?_); rintro e w' ⟨rfl, hb⟩; obtain ⟨hc, hf⟩ := bcell hb; have hz : w.heap.size ≤ w'.heap.size := (by have := hb.size; (try simp at this); omega); have hB : Below w.heap.size w w' := Below.trans (by go_grown) (hb.mono (by go_size)))
    go_ret
    exact ⟨rfl, by go_grown⟩
  · rw [hp] at kv
    by_cases h32 : (m : Int) ≤ 32
    · have hfe : goodP n S T m = true → passOk Z n S T m = true := fun h => by rw [passOk_all h, hp]; simp; omega
      have hfn : ∀ k, goodP n S T (k + 1) = false → k < m → passOk Z n S T m = false := fun k h hk => passOk_no h hk
      have HE := Lib.hid hfe
      have HN := Lib.hid hfn
      clear hp hfe hfn
      go_enter Tryd.func54, Tryd.ntmps54
      go_wp2_with (go_at_call 72; (with_reducible refine (kv _ hz).mono ?_); rintro e w0 ⟨rfl, hB0⟩; replace hy := hy.below hB0; clear hz kv)
      have hq0 := hB0.size
      go_loopw [5] (fun i wr => ∃ k : Nat, k ≤ m ∧ i = .int .i64 k ∧ goodP n S T k = true ∧ Below w.heap.size w wr ∧ Below w0.heap.size w0 wr) (fun i _ => m - (intOf i).toNat)
      case atStart => exact ⟨0, by omega, rfl, rfl, hB0, Below.refl _ _⟩
      case round =>
        obtain ⟨k, hk, rfl, hr, hB, hBz⟩ := hrel
        by_cases hlt : k < m
        · obtain ⟨b, o, rfl, hb, hc⟩ := hy (by omega)
          have hst := goodP_step hr
          obtain ⟨c0, c1⟩ := hc k hlt
          replace c0 := (hBz.cell (p := ⟨b, o + k * 2, none⟩) hb).trans c0
          replace c1 := (hBz.cell (p := ⟨b, o + k * 2 + 1, none⟩) hb).trans c1
          have hb1 : b < wr.heap.size := Nat.lt_of_lt_of_le hb hBz.size
          have kw := fun W => spec_l00In (S k) 0 ((n : Int) - 1) W
          have k2 := fun W => spec_l12Second (T k) W
          cases h1 : inB (S k) 0 ((n : Int) - 1)
          · have hfin := HN.out k (by rw [hst, h1]; rfl) hlt
            rw [h1] at kw
            have H := Lib.hid hfin
            clear hfin hst hr h1 hc
            go_wp2_with (first | (go_at_call 66; (with_reducible refine (kw _).mono ?_); rintro e w' ⟨rfl, rfl⟩) | (go_at_call 73; (with_reducible refine (k2 _).mono ?_); rintro e w' ⟨rfl, rfl⟩))
            go_ret
            exact ⟨by rw [H.out]; rfl, hB⟩
          · rw [h1] at kw
            cases h2 : inB (T k) 0 1000000
            · have hfin := HN.out k (by rw [hst, h1, h2]; rfl) hlt
              rw [h2] at k2
              have H := Lib.hid hfin
              clear hfin hst hr h1 hc h2
              go_wp2_with (first | (go_at_call 66; (with_reducible refine (kw _).mono ?_); rintro e w' ⟨rfl, rfl⟩) | (go_at_call 73; (with_reducible refine (k2 _).mono ?_); rintro e w' ⟨rfl, rfl⟩))
              go_ret
              exact ⟨by rw [H.out]; rfl, hB⟩
            · rw [h2] at k2
              rw [h1, h2, Bool.true_and, Bool.true_and] at hst
              rcases k with _ | j
              · have HS := Lib.hid (hst.trans (by rfl))
                clear hst hr h1 hc h2
                rw [Nat.zero_mul, Nat.add_zero] at c0 c1
                go_wp2_with (first | (go_at_call 66; (with_reducible refine (kw _).mono ?_); rintro e w' ⟨rfl, rfl⟩) | (go_at_call 73; (with_reducible refine (k2 _).mono ?_); rintro e w' ⟨rfl, rfl⟩))
                (refine wp_region_cls (by kernel_rfl) (by kernel_rfl) ?_; (repeat (go_big_quiet_step (fail))); refine wpQuiet_nil ?_; rintro _ ⟨u, rfl⟩; have hb := u.below; replace hB := hB.trans (hb.mono hB.size); generalize u.w = w' at *; obtain ⟨hc, hf, hs⟩ := bkeep hb; have hq' := hb.size; have hq := hB.size; have hb' := hb; clear hb)
                replace hBz := hBz.trans (hb'.mono hBz.size)
                go_wp2
                go_roundw
                case rel => exact ⟨1, by omega, by go_num, HS.out, hB, hBz⟩
                case measure => simp [intOf]; omega
              · obtain ⟨d0, d1⟩ := hc j (by omega)
                replace d0 := (hBz.cell (p := ⟨b, o + j * 2, none⟩) hb).trans d0
                replace d1 := (hBz.cell (p := ⟨b, o + j * 2 + 1, none⟩) hb).trans d1
                have i0 : (0 : Int) ≤ (j : Int) := by omega
                have i1 : (j : Int) + 1 < (m : Int) := by omega
                have hst2 : goodP n S T (j + 1 + 1) = (decide (T j < T (j + 1)) && !(S (j + 1) == S j)) := hst
                clear hst hr h1 hc h2
                by_cases h3 : T j < T (j + 1)
                · have h3b : decide (T (j + 1) ≤ T j) = false := by simp; omega
                  cases h4 : (S j == S (j + 1))
                  · have HS := Lib.hid (hst2.trans (show _ = true by rw [beq_swap, h4, decide_eq_true h3]; rfl))
                    clear hst2
                    go_wp2_with (first | (go_at_call 66; (with_reducible refine (kw _).mono ?_); rintro e w' ⟨rfl, rfl⟩) | (go_at_call 73; (with_reducible refine (k2 _).mono ?_); rintro e w' ⟨rfl, rfl⟩))
                    (refine wp_region_cls (by kernel_rfl) (by kernel_rfl) ?_; (repeat (go_big_quiet_step (fail))); refine wpQuiet_nil ?_; rintro _ ⟨u, rfl⟩; have hb := u.below; replace hB := hB.trans (hb.mono hB.size); generalize u.w = w' at *; obtain ⟨hc, hf, hs⟩ := bkeep hb; have hq' := hb.size; have hq := hB.size; have hb' := hb; clear hb)
                    replace hBz := hBz.trans (hb'.mono hBz.size)
                    go_wp2
                    go_roundw
                    case rel => exact ⟨j + 1 + 1, by omega, by go_num, HS.out, hB, hBz⟩
                    case measure => simp [intOf]; omega
                  · have hfin := HN.out (j + 1) (hst2.trans (show _ = false by rw [beq_swap, h4]; simp)) hlt
                    have H := Lib.hid hfin
                    clear hfin hst2
                    go_wp2_with (first | (go_at_call 66; (with_reducible refine (kw _).mono ?_); rintro e w' ⟨rfl, rfl⟩) | (go_at_call 73; (with_reducible refine (k2 _).mono ?_); rintro e w' ⟨rfl, rfl⟩))
                    (refine wp_region_cls (by kernel_rfl) (by kernel_rfl) ?_; (repeat (go_big_quiet_step (fail))); refine wpQuiet_nil ?_; rintro _ ⟨u, rfl⟩; have hb := u.below; replace hB := hB.trans (hb.mono hB.size); generalize u.w = w' at *; obtain ⟨hc, hf, hs⟩ := bkeep hb; have hq' := hb.size; have hq := hB.size; have hb' := hb; clear hb)
                    go_wp2
                    go_ret
                    exact ⟨by rw [H.out]; rfl, hB⟩
                · have hfin := HN.out (j + 1) (hst2.trans (show _ = false by rw [decide_eq_false h3]; rfl)) hlt
                  have h3b : decide (T (j + 1) ≤ T j) = true := by simp; omega
                  have H := Lib.hid hfin
                  clear hfin hst2
                  go_wp2_with (first | (go_at_call 66; (with_reducible refine (kw _).mono ?_); rintro e w' ⟨rfl, rfl⟩) | (go_at_call 73; (with_reducible refine (k2 _).mono ?_); rintro e w' ⟨rfl, rfl⟩))
                  (refine wp_region_cls (by kernel_rfl) (by kernel_rfl) ?_; (repeat (go_big_quiet_step (fail))); refine wpQuiet_nil ?_; rintro _ ⟨u, rfl⟩; have hb := u.below; replace hB := hB.trans (hb.mono hB.size); generalize u.w = w' at *; obtain ⟨hc, hf, hs⟩ := bkeep hb; have hq' := hb.size; have hq := hB.size; have hb' := hb; clear hb)
                  go_wp2
                  go_ret
                  exact ⟨by rw [H.out]; rfl, hB⟩
        · obtain rfl : k = m := by omega
          have H := Lib.hid (HE.out hr)
          clear hr
          go_wp2
          go_ret
          exact ⟨by rw [H.out]; rfl, hB⟩
    · rw [show passOk Z n S T m = false by unfold passOk; rw [decide_eq_false (show ¬ m ≤ 32 by omega)]; simp]
      clear hp
      go_enter Tryd.func54, Tryd.ntmps54
      go_wp2_with (go_at_call 72; (with_reducible refine (kv _ hz).mono ?_); rintro e w' ⟨rfl, hb⟩; obtain ⟨hc, hf⟩ := bcell hb; have hz : w.heap.size ≤ w'.heap.size := (by have := hb.size; (try simp at this); omega); have hB : Below w.heap.size w w' := Below.trans (by go_grown) (hb.mono (by go_size)))
      go_ret
      exact ⟨rfl, by go_grown⟩

theorem spec_ValidPassings (a : Option Addr) (n c : Nat) (Z : Nat → Int) (a' : Option Addr) (m c' : Nat) (S T : Nat → Int) (w : World) (hz : IntsAt w a n Z) (hy : PassAt w a' m S T) (hn : n ≤ 1048576) (hm : m ≤ 1048576) :
    Calls Tryd.prog 24 #[.slice a n c, .slice a' m c'] w fun e w' => e = .returned (.bool (passOk Z n S T m)) ∧ Below w.heap.size w w' := by
  have kv := spec_l12Ok a n c Z a' m c' S T w hz hy hn hm
  go_enter Tryd.func24, Tryd.ntmps24
  go_wp2_with (go_at_call 54; (with_reducible refine (kv).mono ?_); rintro e w' ⟨rfl, hb⟩; obtain ⟨hc, hf⟩ := bcell hb; have hz : w.heap.size ≤ w'.heap.size := (by have := hb.size; (try simp at this); omega); have hB : Below w.heap.size w w' := Below.trans (by go_grown) (hb.mono (by go_size)))
  go_ret
  exact ⟨rfl, by go_grown⟩

end Go.Proofs.YtdhjnpjemaofoaaDoor
