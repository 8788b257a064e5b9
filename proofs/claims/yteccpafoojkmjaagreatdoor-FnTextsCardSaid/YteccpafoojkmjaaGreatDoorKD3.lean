/-
  Contracts: valid tracks.
-/
import Derived.Test.YteccpafoojkmjaaGreatDoorKC3
import Derived.Test.YteccpafoojkmjaaGreatDoorKC
namespace Go.Proofs.YteccpafoojkmjaaGreatDoor
open Go.RowKit
set_option linter.unusedVariables false
set_option linter.unusedSimpArgs false

theorem any_next {q : Nat → Bool} {k : Nat} (h : any q k = false) (hk : q k = false) : any q (k + 1) = false := any_false.2 (fun j hj => by
  rcases Nat.lt_or_ge j k with h1 | h1
  · exact any_false.1 h j h1
  · obtain rfl : j = k := by omega
    exact hk)

set_option maxHeartbeats 2000000 in
theorem impl_ValidTrack (a : Option Addr) (n c : Nat) (L G : Nat → Int) (lf lu : Int) (w : World) (hP : PassAt w a n L G) (hn : n ≤ 1048576) :
    Calls Tryz.prog 28 #[.agg #[.slice a n c, .int .i64 lf, .int .i64 lu]] w fun e w' => e = .returned (.bool (trackOk L G n lf lu)) ∧ Below w.heap.size w w' := by
  by_cases h1 : 1 ≤ n
  · have h1' : ¬ (n : Int) < 1 := by omega
    by_cases h2 : n ≤ 12
    · have h2' : ¬ (12 : Int) < (n : Int) := by omega
      have HNO := Lib.hid (fun h => track_nos (L := L) (G := G) (n := n) (lf := lf) (lu := lu) h)
      have HYES := Lib.hid (fun h => track_yes (L := L) (G := G) (n := n) (lf := lf) (lu := lu) h1 h2 h)
      go_enter Tryz.func28, Tryz.ntmps28
      go_wp2_with fail
      (have Q0 : (w.alloc (Obj.cells #[.slice a n c, .int .i64 lf, .int .i64 lu] 26)).cell? ⟨w.heap.size, 0, none⟩ = some (.slice a n c) := (by go_simp); have Q1 : (w.alloc (Obj.cells #[.slice a n c, .int .i64 lf, .int .i64 lu] 26)).cell? ⟨w.heap.size, 1, none⟩ = some (.int .i64 lf) := (by go_simp); have Q2 : (w.alloc (Obj.cells #[.slice a n c, .int .i64 lf, .int .i64 lu] 26)).cell? ⟨w.heap.size, 2, none⟩ = some (.int .i64 lu) := (by go_simp); have Z3 : w.heap.size < (w.alloc (Obj.cells #[.slice a n c, .int .i64 lf, .int .i64 lu] 26)).heap.size := (by first | omega | (simp; done) | (simp; omega)); have BB : Below w.heap.size w (w.alloc (Obj.cells #[.slice a n c, .int .i64 lf, .int .i64 lu] 26)) := (by go_grown); generalize w.alloc (Obj.cells #[.slice a n c, .int .i64 lf, .int .i64 lu] 26) = w2 at *)
      generalize hg : w.heap.size = g at *
      have h2g : g ≤ w2.heap.size := by rw [← hg]; exact Below.size (B := w.heap.size) (by rw [hg]; exact BB)
      have hZ0 : g < w2.heap.size := by first | assumption | omega
      have HG := Lib.hid hg
      clear hg
      go_loopw [18] (fun i wr => ∃ k : Nat, k ≤ n ∧ i = .int .i64 k ∧ any (fun k => !secB L G k) k = false ∧ Below w2.heap.size w2 wr) (fun i _ => n - (intOf i).toNat)
      case atStart => exact ⟨0, by omega, rfl, rfl, Below.refl _ _⟩
      case round =>
        obtain ⟨k, hk, rfl, hno, hB⟩ := hrel
        have hP2 := hP.below (w' := w2) (by rw [HG.out]; exact BB)
        have hq := hB.size
        by_cases hlt : k < n
        · obtain ⟨b, o, rfl, hb, hc⟩ := hP2 (by omega)
          obtain ⟨c0, c1⟩ := hc k hlt
          replace c0 := (hB.cell (p := ⟨b, o + k * 2, none⟩) hb).trans c0
          replace c1 := (hB.cell (p := ⟨b, o + k * 2 + 1, none⟩) hb).trans c1
          have k1 := fun W => impl_within (L k) 1 3000000 W
          have k2 := fun W => impl_within (G k) 0 900 W
          have hs : secB L G k = (inB (L k) 1 3000000 && inB (G k) 0 900) := rfl
          clear hc
          cases e1 : inB (L k) 1 3000000
          · have H := Lib.hid (HNO.out (any_true.2 ⟨k, hlt, by rw [hs, e1]; rfl⟩))
            rw [e1] at k1
            clear hno hs e1
            go_wp2_with (first | (go_at_call 35; (with_reducible refine (k1 _).mono ?_); rintro e w' ⟨rfl, rfl⟩) | (go_at_call 35; (with_reducible refine (k2 _).mono ?_); rintro e w' ⟨rfl, rfl⟩))
            go_ret
            exact ⟨by rw [H.out]; rfl, by rw [HG.out]; exact BB.trans ((Below.alloc hB hq _).mono h2g)⟩
          · rw [e1] at k1
            cases e2 : inB (G k) 0 900
            · have H := Lib.hid (HNO.out (any_true.2 ⟨k, hlt, by rw [hs, e1, e2]; rfl⟩))
              rw [e2] at k2
              clear hno hs e1 e2
              go_wp2_with (first | (go_at_call 35; (with_reducible refine (k1 _).mono ?_); rintro e w' ⟨rfl, rfl⟩) | (go_at_call 35; (with_reducible refine (k2 _).mono ?_); rintro e w' ⟨rfl, rfl⟩))
              go_ret
              exact ⟨by rw [H.out]; rfl, by rw [HG.out]; exact BB.trans ((Below.alloc hB hq _).mono h2g)⟩
            · have H := Lib.hid (any_next hno (show (!secB L G k) = false by rw [hs, e1, e2]; rfl))
              rw [e2] at k2
              clear hno hs e1 e2
              go_wp2_with (first | (go_at_call 35; (with_reducible refine (k1 _).mono ?_); rintro e w' ⟨rfl, rfl⟩) | (go_at_call 35; (with_reducible refine (k2 _).mono ?_); rintro e w' ⟨rfl, rfl⟩))
              go_roundw
              case rel => exact ⟨k + 1, by omega, by go_num, H.out, Below.alloc hB hq _⟩
              case measure => simp [intOf]; omega
        · obtain rfl : k = n := by omega
          have hPr := hP2.below hB
          have H := Lib.hid (HYES.out hno)
          have hsl : ∀ j, j < k → 1 ≤ L j ∧ L j ≤ 3000000 := fun j hj => ⟨(secs_at hno hj).1, (secs_at hno hj).2.1⟩
          have kl := fun W h => impl_length a k c L G lf lu W h h2 hsl
          replace Q0 := (hB.cell (p := ⟨g, 0, none⟩) hZ0).trans Q0
          replace Q1 := (hB.cell (p := ⟨g, 1, none⟩) hZ0).trans Q1
          replace Q2 := (hB.cell (p := ⟨g, 2, none⟩) hZ0).trans Q2
          replace hZ0 := Nat.lt_of_lt_of_le hZ0 hq
          clear hno hsl hP2
          generalize lenT L k = T at *
          have kA := fun x y z W => impl_within x y z W
          cases e0 : decide (T ≤ 3000000)
          · rw [e0] at H
            go_wp2
            (refine wp_region_cls (by kernel_rfl) (by kernel_rfl) ?_; (repeat (go_big_quiet_step ((first | (go_at_call 47; exact cls_B (kl _ (hPr.below (Cls.below _)))) | (go_at_call 35; exact cls_S (kA _ _ _ _)))))); refine wpQuiet_nil ?_; rintro _ ⟨u, rfl⟩; have hb := u.below; replace hB := hB.trans (hb.mono hB.size); generalize u.w = w' at *; obtain ⟨hc, hf, hs⟩ := bkeep hb; have hq' := hb.size; have hq := hB.size; have hb' := hb; clear hb)
            go_wp2
            go_ret
            exact ⟨by rw [H.out]; rfl, by rw [HG.out]; exact BB.trans (hB.mono h2g)⟩
          · cases e1 : inB lf 0 T
            · rw [e0, e1] at H
              go_wp2
              (refine wp_region_cls (by kernel_rfl) (by kernel_rfl) ?_; (repeat (go_big_quiet_step ((first | (go_at_call 47; exact cls_B (kl _ (hPr.below (Cls.below _)))) | (go_at_call 35; exact cls_S (kA _ _ _ _)))))); refine wpQuiet_nil ?_; rintro _ ⟨u, rfl⟩; have hb := u.below; replace hB := hB.trans (hb.mono hB.size); generalize u.w = w' at *; obtain ⟨hc, hf, hs⟩ := bkeep hb; have hq' := hb.size; have hq := hB.size; have hb' := hb; clear hb)
              go_wp2
              go_ret
              exact ⟨by rw [H.out]; rfl, by rw [HG.out]; exact BB.trans (hB.mono h2g)⟩
            · cases e2 : inB lu lf T
              · rw [e0, e1, e2] at H
                go_wp2
                (refine wp_region_cls (by kernel_rfl) (by kernel_rfl) ?_; (repeat (go_big_quiet_step ((first | (go_at_call 47; exact cls_B (kl _ (hPr.below (Cls.below _)))) | (go_at_call 35; exact cls_S (kA _ _ _ _)))))); refine wpQuiet_nil ?_; rintro _ ⟨u, rfl⟩; have hb := u.below; replace hB := hB.trans (hb.mono hB.size); generalize u.w = w' at *; obtain ⟨hc, hf, hs⟩ := bkeep hb; have hq' := hb.size; have hq := hB.size; have hb' := hb; clear hb)
                go_wp2
                go_ret
                exact ⟨by rw [H.out]; rfl, by rw [HG.out]; exact BB.trans (hB.mono h2g)⟩
              · rw [e0, e1, e2] at H
                go_wp2
                (refine wp_region_cls (by kernel_rfl) (by kernel_rfl) ?_; (repeat (go_big_quiet_step ((first | (go_at_call 47; exact cls_B (kl _ (hPr.below (Cls.below _)))) | (go_at_call 35; exact cls_S (kA _ _ _ _)))))); refine wpQuiet_nil ?_; rintro _ ⟨u, rfl⟩; have hb := u.below; replace hB := hB.trans (hb.mono hB.size); generalize u.w = w' at *; obtain ⟨hc, hf, hs⟩ := bkeep hb; have hq' := hb.size; have hq := hB.size; have hb' := hb; clear hb)
                go_wp2
                go_ret
                exact ⟨by rw [H.out]; rfl, by rw [HG.out]; exact BB.trans (hB.mono h2g)⟩
    · rw [track_no12 h2]
      have h2' : (12 : Int) < (n : Int) := by omega
      go_enter Tryz.func28, Tryz.ntmps28
      go_wp2
      go_returns
      exact ⟨rfl, by go_grown⟩
  · rw [track_no0 h1]
    have h1' : (n : Int) < 1 := by omega
    go_enter Tryz.func28, Tryz.ntmps28
    go_wp2
    go_returns
    exact ⟨rfl, by go_grown⟩

end Go.Proofs.YteccpafoojkmjaaGreatDoor
