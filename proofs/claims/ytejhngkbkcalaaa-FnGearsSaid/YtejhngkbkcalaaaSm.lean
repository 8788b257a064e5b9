/-
  Contracts: the stable sort where all prices are equal, and of few prices.
-/
import Derived.Test.YtejhngkbkcalaaaSo
namespace Go.Proofs.Ytejhngkbkcalaaa
open Go.RowKit
set_option linter.unusedVariables false
set_option linter.unusedSimpArgs false


theorem cmpI_eq {x y : Int} (h : x = y) : cmpI x y = 0 := by unfold cmpI; rw [if_neg (by omega), if_neg (by omega)]
set_option maxHeartbeats 4000000 in
set_option maxRecDepth 100000 in
theorem sort_merge_eq (g n c : Nat) (O : Nat → Nat) (P : Nat → Int) (bx : Nat) (aP : Option Addr) (cP : Nat) (ho : OrderOf O n) (hn : n ≤ 100) (hEq : ∀ i j, i < n → j < n → P i = P j) : ∀ (N A M B : Nat) (w : World), B - A ≤ N → A < M → M < B → B ≤ n →
    OrdAt w g n O → w.cell? ⟨bx, 0, none⟩ = some (.slice aP n cP) → IntsAt w aP n P →
    Calls Try.prog 62 #[.slice (some ⟨g, 0, none⟩) n c, .int .i64 (A : Int), .int .i64 (M : Int), .int .i64 (B : Int), .func (.func 47) #[] #[.pointer (some ⟨bx, 0, none⟩)]] w
      fun e w' => e = .returned (.tuple #[]) ∧ Below w.heap.size w w' := by
  intro N
  induction N with
  | zero => intro A M B w h1 h2 h3; omega
  | succ N IH =>
    intro A M B w hN hAM hMB hBn hO hx hP
    have KC := Lib.hid (fun (i j : Nat) (W : World) (hW : Below w.heap.size w W) (hi : i < n) (hj : j < n) => by
      have k := impl_CheapestHours_2 bx aP n cP P (O i) (O j) W ((hW.cell (p := ⟨bx, 0, none⟩) (World.block_lt_of_cell? _ _ hx)).trans hx) (hP.below hW) (ho.lt _ hi) (ho.lt _ hj) (by omega)
      rw [cmpI_eq (hEq _ _ (ho.lt _ hi) (ho.lt _ hj))] at k
      exact k)
    have HI := Lib.hid (fun A M B W (hW : Below w.heap.size w W) h1 h2 h3 h4 => IH A M B W h1 h2 h3 h4 (hO.below hW) ((hW.cell (p := ⟨bx, 0, none⟩) (World.block_lt_of_cell? _ _ hx)).trans hx) (hP.below hW))
    have HO := Lib.hid hO
    clear IH hO hx hP
    by_cases h1 : M - A = 1
    · have e1 : (M : Int) - A = 1 := by omega
      go_enter Try.func62, Try.ntmps62
      go_wp2_with fail
      go_loopw [10, 11] (fun i j wr => ∃ q : Nat, M ≤ q ∧ q ≤ B ∧ i = .int .i64 (M : Int) ∧ j = .int .i64 (q : Int) ∧ Below w.heap.size w wr) (fun _ j _ => (intOf j).toNat)
      case atStart => exact ⟨B, by omega, by omega, rfl, rfl, Below.refl _ _⟩
      case round =>
        obtain ⟨q, q1, q2, rfl, rfl, hB⟩ := hrel
        by_cases hlt : M < q
        · have l0 : (M : Int) < (q : Int) := by omega
          obtain ⟨H, hH, h2, h3⟩ : ∃ H : Nat, ((M : Int) + (q : Int)) / 2 = (H : Int) ∧ M ≤ H ∧ H < q := ⟨(M + q) / 2, by omega, by omega, by omega⟩
          have cx := ((HO.out.below hB).at (show H < n by omega)).1
          have cy := ((HO.out.below hB).at (show A < n by omega)).1
          have lg := ((HO.out.below hB).at (show A < n by omega)).2.2
          have kc := fun W (hW : Below wr.heap.size wr W) => KC.out H A W (hB.trans (hW.mono hB.size)) (by omega) (by omega)
          have nx : (H : Int) < (n : Int) := by omega
          have ny : (A : Int) < (n : Int) := by omega
          generalize O H = ox at *
          generalize O A = oy at *
          go_upto_region 5 with fail
          try rw [hH]
          (refine wp_region_cls (by kernel_rfl) (by kernel_rfl) ?_; (repeat (go_big_quiet_step ((go_at_call 47; with_reducible exact cls_B (kc _ (Cls.below _)))))); refine wpQuiet_nil ?_; rintro _ ⟨u, rfl⟩; have hb := u.below; replace hB := hB.trans (hb.mono hB.size); generalize u.w = w' at *; obtain ⟨hc, hf, hs⟩ := bkeep hb; have hq' := hb.size; have hq := hB.size; have hb' := hb; clear hb)
          clear cx cy lg kc hc hf hs hq' hq hb'
          go_wp2
          go_roundw
          case rel => exact ⟨H, by omega, by omega, rfl, rfl, hB⟩
          case measure => simp [intOf]; omega
        · obtain rfl : q = M := by omega
          go_wp2_with fail
          go_loopw [13] (fun k wr => k = .int .i64 (A : Int) ∧ Below w.heap.size w wr) (fun _ _ => 0)
          case atStart => exact ⟨rfl, hB⟩
          case round =>
            clear hB
            obtain ⟨rfl, hB⟩ := hrel
            have l1 : ¬ (A : Int) < (q : Int) - 1 := by omega
            go_wp2
            go_returns
            exact ⟨rfl, hB⟩
    · have e1 : ¬ (M : Int) - A = 1 := by omega
      by_cases h2 : B - M = 1
      · have e2 : (B : Int) - M = 1 := by omega
        go_enter Try.func62, Try.ntmps62
        go_wp2_with fail
        go_loopw [14, 15] (fun i j wr => ∃ q : Nat, A ≤ q ∧ q ≤ M ∧ i = .int .i64 (q : Int) ∧ j = .int .i64 (M : Int) ∧ Below w.heap.size w wr) (fun i _ _ => M - (intOf i).toNat)
        case atStart => exact ⟨A, by omega, by omega, rfl, rfl, Below.refl _ _⟩
        case round =>
          obtain ⟨q, q1, q2, rfl, rfl, hB⟩ := hrel
          by_cases hlt : q < M
          · have l0 : (q : Int) < (M : Int) := by omega
            obtain ⟨H, hH, h2, h3⟩ : ∃ H : Nat, ((q : Int) + (M : Int)) / 2 = (H : Int) ∧ q ≤ H ∧ H < M := ⟨(q + M) / 2, by omega, by omega, by omega⟩
            have cx := ((HO.out.below hB).at (show M < n by omega)).1
            have cy := ((HO.out.below hB).at (show H < n by omega)).1
            have lg := ((HO.out.below hB).at (show H < n by omega)).2.2
            have kc := fun W (hW : Below wr.heap.size wr W) => KC.out M H W (hB.trans (hW.mono hB.size)) (by omega) (by omega)
            have nx : (M : Int) < (n : Int) := by omega
            have ny : (H : Int) < (n : Int) := by omega
            generalize O M = ox at *
            generalize O H = oy at *
            go_upto_region 17 with fail
            try rw [hH]
            (refine wp_region_cls (by kernel_rfl) (by kernel_rfl) ?_; (repeat (go_big_quiet_step ((go_at_call 47; with_reducible exact cls_B (kc _ (Cls.below _)))))); refine wpQuiet_nil ?_; rintro _ ⟨u, rfl⟩; have hb := u.below; replace hB := hB.trans (hb.mono hB.size); generalize u.w = w' at *; obtain ⟨hc, hf, hs⟩ := bkeep hb; have hq' := hb.size; have hq := hB.size; have hb' := hb; clear hb)
            clear cx cy lg kc hc hf hs hq' hq hb'
            go_wp2
            go_roundw
            case rel => exact ⟨H + 1, by omega, by omega, by go_num, rfl, hB⟩
            case measure => simp [intOf]; omega
          · obtain rfl : q = M := by omega
            go_wp2_with fail
            go_loopw [17] (fun k wr => k = .int .i64 (q : Int) ∧ Below w.heap.size w wr) (fun _ _ => 0)
            case atStart => exact ⟨rfl, hB⟩
            case round =>
              clear hB
              obtain ⟨rfl, hB⟩ := hrel
              go_wp2
              go_returns
              exact ⟨rfl, hB⟩
      · have e2 : ¬ (B : Int) - M = 1 := by omega
        obtain ⟨D, hD, d1, d2, d3, d4⟩ : ∃ D : Nat, ((A : Int) + (B : Int)) / 2 = (D : Int) ∧ A < D ∧ D < B ∧ 2 * D ≤ A + B ∧ A + B ≤ 2 * D + 1 := ⟨(A + B) / 2, by omega, by omega, by omega, by omega, by omega⟩
        go_enter Try.func62, Try.ntmps62
        go_upto_region 25 with fail
        try rw [hD]
        by_cases hm : D < M
        · have m0 : (D : Int) < (M : Int) := by omega
          go_wp2_with fail
          go_loopw [20, 21] (fun i j wr => ∃ q : Nat, D + M - B ≤ q ∧ q ≤ D ∧ i = .int .i64 (q : Int) ∧ j = .int .i64 (D : Int) ∧ Below w.heap.size w wr) (fun i _ _ => D - (intOf i).toNat)
          case atStart => exact ⟨D + M - B, by omega, by omega, by congr 1; omega, rfl, Below.refl _ _⟩
          case round =>
            obtain ⟨q, q1, q2, rfl, rfl, hB⟩ := hrel
            by_cases hlt : q < D
            · have l0 : (q : Int) < (D : Int) := by omega
              obtain ⟨H, hH, h2, h3⟩ : ∃ H : Nat, ((q : Int) + (D : Int)) / 2 = (H : Int) ∧ q ≤ H ∧ H < D := ⟨(q + D) / 2, by omega, by omega, by omega⟩
              obtain ⟨K, hK, h4⟩ : ∃ K : Nat, (D : Int) + (M : Int) - 1 - (H : Int) = (K : Int) ∧ K < n := ⟨D + M - 1 - H, by omega, by omega⟩
              have cx := ((HO.out.below hB).at (show K < n by omega)).1
              have cy := ((HO.out.below hB).at (show H < n by omega)).1
              have lg := ((HO.out.below hB).at (show H < n by omega)).2.2
              have kc := fun W (hW : Below wr.heap.size wr W) => KC.out K H W (hB.trans (hW.mono hB.size)) (by omega) (by omega)
              have nx : (K : Int) < (n : Int) := by omega
              have ny : (H : Int) < (n : Int) := by omega
              generalize O K = ox at *
              generalize O H = oy at *
              go_upto_region 35 with fail
              try rw [hH]
              (refine wp_region_cls (by kernel_rfl) (by kernel_rfl) ?_; (repeat (go_big_quiet_step ((go_at_call 47; with_reducible exact cls_B (kc _ (Cls.below _)))))); refine wpQuiet_nil ?_; rintro _ ⟨u, rfl⟩; have hb := u.below; replace hB := hB.trans (hb.mono hB.size); generalize u.w = w' at *; obtain ⟨hc, hf, hs⟩ := bkeep hb; have hq' := hb.size; have hq := hB.size; have hb' := hb; clear hb)
              clear cx cy lg kc hc hf hs hq' hq hb'
              go_wp2
              go_roundw
              case rel => exact ⟨H + 1, by omega, by omega, by go_num, rfl, hB⟩
              case measure => simp [intOf]; omega
            · obtain rfl : q = D := by omega
              have e3 : (q : Int) + (M : Int) - (q : Int) = (M : Int) := by omega
              have b1 : decide ((q : Int) < (M : Int)) = true := decide_eq_true (by omega)
              have b2 : decide ((A : Int) < (q : Int)) = true := decide_eq_true (by omega)
              have b3 : decide ((M : Int) < (B : Int)) = true := decide_eq_true (by omega)
              have ki := HI.out q M B _ hB (by omega) (by omega) (by omega) (by omega)
              go_wp2_with fail
              refine ki.mono ?_
              rintro e wz ⟨rfl, hb⟩
              replace hB := hB.trans (hb.mono hB.size)
              go_wp2_with fail
              go_returns
              exact ⟨rfl, hB⟩
        · have m0 : ¬ (D : Int) < (M : Int) := by omega
          go_wp2_with fail
          go_loopw [20, 21] (fun i j wr => ∃ q : Nat, A ≤ q ∧ q ≤ M ∧ i = .int .i64 (q : Int) ∧ j = .int .i64 (M : Int) ∧ Below w.heap.size w wr) (fun i _ _ => M - (intOf i).toNat)
          case atStart => exact ⟨A, by omega, by omega, rfl, rfl, Below.refl _ _⟩
          case round =>
            obtain ⟨q, q1, q2, rfl, rfl, hB⟩ := hrel
            by_cases hlt : q < M
            · have l0 : (q : Int) < (M : Int) := by omega
              obtain ⟨H, hH, h2, h3⟩ : ∃ H : Nat, ((q : Int) + (M : Int)) / 2 = (H : Int) ∧ q ≤ H ∧ H < M := ⟨(q + M) / 2, by omega, by omega, by omega⟩
              obtain ⟨K, hK, h4⟩ : ∃ K : Nat, (D : Int) + (M : Int) - 1 - (H : Int) = (K : Int) ∧ K < n := ⟨D + M - 1 - H, by omega, by omega⟩
              have cx := ((HO.out.below hB).at (show K < n by omega)).1
              have cy := ((HO.out.below hB).at (show H < n by omega)).1
              have lg := ((HO.out.below hB).at (show H < n by omega)).2.2
              have kc := fun W (hW : Below wr.heap.size wr W) => KC.out K H W (hB.trans (hW.mono hB.size)) (by omega) (by omega)
              have nx : (K : Int) < (n : Int) := by omega
              have ny : (H : Int) < (n : Int) := by omega
              generalize O K = ox at *
              generalize O H = oy at *
              go_upto_region 35 with fail
              try rw [hH]
              (refine wp_region_cls (by kernel_rfl) (by kernel_rfl) ?_; (repeat (go_big_quiet_step ((go_at_call 47; with_reducible exact cls_B (kc _ (Cls.below _)))))); refine wpQuiet_nil ?_; rintro _ ⟨u, rfl⟩; have hb := u.below; replace hB := hB.trans (hb.mono hB.size); generalize u.w = w' at *; obtain ⟨hc, hf, hs⟩ := bkeep hb; have hq' := hb.size; have hq := hB.size; have hb' := hb; clear hb)
              clear cx cy lg kc hc hf hs hq' hq hb'
              go_wp2
              go_roundw
              case rel => exact ⟨H + 1, by omega, by omega, by go_num, rfl, hB⟩
              case measure => simp [intOf]; omega
            · obtain rfl : q = M := by omega
              have e3 : (D : Int) + (q : Int) - (q : Int) = (D : Int) := by omega
              have b2 : decide ((A : Int) < (q : Int)) = true := decide_eq_true (by omega)
              by_cases hqd : q < D
              · have b3 : decide ((q : Int) < (D : Int)) = true := decide_eq_true (by omega)
                have ki := HI.out A q D _ hB (by omega) (by omega) (by omega) (by omega)
                go_wp2_with fail
                refine ki.mono ?_
                rintro e wz ⟨rfl, hb⟩
                replace hB := hB.trans (hb.mono hB.size)
                go_wp2_with fail
                go_returns
                exact ⟨rfl, hB⟩
              · have b3 : decide ((q : Int) < (D : Int)) = false := decide_eq_false (by omega)
                go_wp2
                go_returns
                exact ⟨rfl, hB⟩

end Go.Proofs.Ytejhngkbkcalaaa
