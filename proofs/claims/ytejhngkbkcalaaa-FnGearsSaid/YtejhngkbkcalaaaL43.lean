/-
  Walk of the law FnGears.
-/
import Derived.Test.YtejhngkbkcalaaaHd
import Derived.Test.YtejhngkbkcalaaaGe
import Derived.Test.YtejhngkbkcalaaaGp
import Derived.Test.YtejhngkbkcalaaaCi
import Derived.Test.YtejhngkbkcalaaaDg
import Derived.Test.YtejhngkbkcalaaaDb
namespace Go.Proofs.Ytejhngkbkcalaaa
open Go.RowKit
set_option linter.unusedVariables false
set_option linter.unusedSimpArgs false

theorem peak_ok {F : Nat → Int} {n : Nat} {t : Int} (h : peakE F n t = 0) : peakOk F n t = true := by
  unfold peakE at h
  cases hk : peakOk F n t
  · rw [hk] at h; simp at h
  · rfl
theorem sum_prod_bd {X P : Nat → Int} {n : Nat} (h : ∀ j, j < n → 0 ≤ X j ∧ X j ≤ 1000) (hp : ∀ j, j < n → 0 ≤ P j ∧ P j ≤ 10000) : ∀ k : Nat, k ≤ n → 0 ≤ sumV (fun j => X j * P j) k ∧ sumV (fun j => X j * P j) k ≤ 10000000 * (k : Int)
  | 0, _ => by simp [sumV]
  | k + 1, hk => by
    have ih := sum_prod_bd h hp k (by omega)
    have a := h k (by omega)
    have b := hp k (by omega)
    have m := mul_bd a.1 a.2 b.1 b.2
    rw [sumV_succ]
    omega

set_option maxHeartbeats 64000000 in
set_option maxRecDepth 100000 in
theorem law_FnGears (a0 : Option Addr) (n0 c0 : Nat) (a1 : Option Addr) (n1 c1 : Nat) (w : World) (hz0 : BytesAt w a0 n0) (hz1 : BytesAt w a1 n1) :
    Calls Try.prog 3 #[.slice a0 n0 c0, .slice a1 n1 c1] w fun e w' => e = .returned (.bool true) ∧ Below w.heap.size w w' := by
  have kl0 := fun W => laws_b10Long a0 n0 c0 W
  have kl1 := fun W => laws_b10Long a1 n1 c1 W
  by_cases hlen : n0 ≤ 1048576 ∧ n1 ≤ 1048576
  · rw [decide_eq_false (show ¬ (1048576 : Int) < (n0 : Int) by omega)] at kl0
    rw [decide_eq_false (show ¬ (1048576 : Int) < (n1 : Int) by omega)] at kl1
    have HZ0 := Lib.hid hz0
    have HZ1 := Lib.hid hz1
    clear hz0 hz1
    go_enter Try.func3, Try.ntmps3
    go_wp2_with fail
    refine (kl0 _).mono ?_
    rintro e w' ⟨rfl, rfl⟩
    go_wp2_with fail
    refine (kl1 _).mono ?_
    rintro e w' ⟨rfl, rfl⟩
    clear kl0 kl1
    go_wp2_with fail
    refine (spec_DrawGearFor a0 n0 c0 _ HZ0.out hlen.1).mono ?_
    rintro e wa ⟨p, k, r, aG, nG, cG, G, f, s, rfl, n61, hI, hB⟩
    have bA : Below wa.heap.size wa (wa.alloc (Obj.cells #[.int .i64 p, .int .i64 k, .int .i64 r] 25)) := Below.alloc (Below.refl _ _) (Nat.le_refl _) _
    have R := Row3.made wa (.int .i64 p) (.int .i64 k) (.int .i64 r) 25
    replace hB := hB.trans (bA.mono hB.size)
    replace hI := hI.below bA
    clear bA
    go_upto_region 4 with fail
    generalize wa.alloc (Obj.cells #[.int .i64 p, .int .i64 k, .int .i64 r] 25) = wb at *
    generalize wa.heap.size = X at *
    clear wa
    have HH : Held wb [(X, 0, .int .i64 p), (X, 1, .int .i64 k), (X, 2, .int .i64 r)] := (((Held.nil wb).cons R.lt R.c2).cons R.lt R.c1).cons R.lt R.c0
    clear R
    have q0 : wb.cell? ⟨X, 0, none⟩ = some (.int .i64 p) := HH.get 0 _ rfl
    have q1 : wb.cell? ⟨X, 1, none⟩ = some (.int .i64 k) := HH.get 1 _ rfl
    have q2 : wb.cell? ⟨X, 2, none⟩ = some (.int .i64 r) := HH.get 2 _ rfl
    go_wp2_with fail
    refine (impl_GearFor p k r f s aG nG cG G _ hI (by omega)).mono ?_
    rintro e wc ⟨rfl, hb⟩
    clear q0 q1 q2
    replace HH := HH.below hb
    replace hI := hI.below hb
    replace hB := hB.trans (hb.mono hB.size)
    clear hb
    have FL := Lib.hid (fun h => @gear_law p k r f s G nG h)
    generalize gearE p k r f s G nG = E at *
    generalize gearK p k r f s G nG = K at *
    go_upto_region 5 with fail
    go_cut [66] (fun u W => W = wc ∧ u = .bool (E == 0 || E == 3))
    case first => as_aux_lemma =>
      clear FL HH hI hB HZ0 HZ1
      by_cases hE : E = 0
      · subst hE
        go_wp2
        go_meet
        exact ⟨rfl, rfl⟩
      · have g0 : (E == 0) = false := by simpa using hE
        have HG := Lib.hid g0
        go_wp2
        go_meet
        exact ⟨rfl, by rw [HG.out]; rfl⟩
    case rest => as_aux_lemma =>
      obtain ⟨rfl, rfl⟩ := hcut
      go_upto_if 66 with fail
      go_cut [] (fun W => Below w.heap.size w W)
      case first => as_aux_lemma =>
        by_cases hE : E = 0 ∨ E = 3
        · obtain ⟨⟨k', rfl, hkn⟩, f1, f2, n6, ⟨fb0, fb1⟩, ⟨sb0, sb1⟩, gb⟩ := FL.out hE
          have HF1 := Lib.hid f1
          have HF2 := Lib.hid f2
          have HGB := Lib.hid gb
          have hor : (E == 0 || E == 3) = true := by rcases hE with rfl | rfl <;> rfl
          have kk0 : ¬ (k' : Int) < 0 := by omega
          have kk1 : ¬ (nG : Int) ≤ (k' : Int) := by omega
          clear FL f1 f2 gb
          rw [hor]
          go_wp2_with fail
          go_loopw [11] (fun i wr => ∃ j : Nat, j ≤ nG ∧ i = .int .i64 (j : Int) ∧ IntsAt wr aG nG G ∧ Held wr [(X, 0, .int .i64 p), (X, 1, .int .i64 k), (X, 2, .int .i64 r)] ∧ Below w.heap.size w wr) (fun i _ => nG - (intOf i).toNat)
          case atStart => exact ⟨0, by omega, rfl, hI, HH, hB⟩
          case round => as_aux_lemma =>
            clear hI HH hB
            obtain ⟨j, hj, rfl, hI, HH, hB⟩ := hrel
            by_cases hlt : j < nG
            · obtain ⟨b, o, ea, lb, hcz⟩ := id hI (by omega)
              subst ea
              have cj := hcz j hlt
              obtain ⟨g0, g1⟩ := HGB.out j hlt
              have j0 : (j : Int) < (nG : Int) := by omega
              have mb := mul_bd sb0 sb1 (show 0 ≤ G j by omega) g1
              have k1 := fun W => laws_b10Div (1000 * f) (G j) W (by omega) (by omega) (by omega) (by omega)
              have k2 := fun W => laws_b10Div (s * G j) 1000 W (by omega) (by omega) (by omega) (by omega)
              have k3 := fun W => spec_PowerNeeded p k r (nearV (1000 * f) (G j)) (nearV (s * G j) 1000) W
              have hgc : gearC p k r f s (G j) = needC p k r (nearV (1000 * f) (G j)) (nearV (s * G j) 1000) := rfl
              rw [← hgc] at k3
              have h1 := fun h => HF1.out j hlt h
              have h2 := fun h h' => HF2.out j hlt h h'
              clear hcz hgc HF1 HF2
              generalize gearC p k r f s (G j) = GC at *
              generalize needN p k r (nearV (1000 * f) (G j)) (nearV (s * G j) 1000) = NN at *
              generalize nearV (1000 * f) (G j) = N1 at *
              generalize nearV (s * G j) 1000 = N2 at *
              generalize G j = gq at *
              have q0 : wr.cell? ⟨X, 0, none⟩ = some (.int .i64 p) := HH.get 0 _ rfl
              have q1 : wr.cell? ⟨X, 1, none⟩ = some (.int .i64 k) := HH.get 1 _ rfl
              have q2 : wr.cell? ⟨X, 2, none⟩ = some (.int .i64 r) := HH.get 2 _ rfl
              have lX : X < wr.heap.size := HH.lt 0 _ rfl
              have H1 := Lib.hid h1
              have H2 := Lib.hid h2
              clear h1 h2
              go_wp2
              (refine wp_region_cls (by kernel_rfl) (by kernel_rfl) ?_; (repeat (go_big_quiet_step ((first | (go_at_call 8; with_reducible exact cls_S (k1 _)) | (go_at_call 8; with_reducible exact cls_S (k2 _)) | (go_at_call 7; with_reducible exact cls_B (k3 _)))))); refine wpQuiet_nil ?_; rintro _ ⟨u, rfl⟩; have hb := u.below; replace hB := hB.trans (hb.mono hB.size); generalize u.w = w' at *; obtain ⟨hc, hf, hs⟩ := bkeep hb; have hq' := hb.size; have hq := hB.size; have hb' := hb; clear hb)
              clear q0 q1 q2 cj lb lX hc hf hs hq' hq k1 k2 k3
              replace hI := hI.below hb'
              replace HH := HH.below hb'
              clear hb'
              go_upto_region 12 with fail
              go_cut [123] (fun u W => W = w' ∧ u = .bool false)
              case first => as_aux_lemma =>
                rcases hE with rfl | rfl
                · by_cases h5 : j < k'
                  · have g2 := H1.out (Or.inr (by omega))
                    have g3 : (GC == 0) = false := by simpa using g2
                    have g4 : decide ((j : Int) < (k' : Int)) = true := decide_eq_true (by omega)
                    have g5 : ((j : Int) == (k' : Int)) = false := beq_eq_false_iff_ne.2 (by omega)
                    go_wp2
                    go_meet
                    exact ⟨rfl, rfl⟩
                  · have g4 : decide ((j : Int) < (k' : Int)) = false := decide_eq_false (by omega)
                    by_cases h6 : j = k'
                    · have g2 := H2.out rfl (by omega)
                      subst g2 h6
                      go_wp2
                      go_meet
                      exact ⟨rfl, rfl⟩
                    · have g5 : ((j : Int) == (k' : Int)) = false := beq_eq_false_iff_ne.2 (by omega)
                      go_wp2
                      go_meet
                      exact ⟨rfl, rfl⟩
                · have g2 := H1.out (Or.inl rfl)
                  have g3 : (GC == 0) = false := by simpa using g2
                  go_wp2
                  go_meet
                  exact ⟨rfl, rfl⟩
              case rest => as_aux_lemma =>
                obtain ⟨rfl, rfl⟩ := hcut
                go_wp2
                go_roundw
                case rel => exact ⟨j + 1, by omega, by go_num, hI, HH, hB⟩
                case measure => simp [intOf]; omega
            · obtain rfl : j = nG := by omega
              go_wp2_with fail
              go_meet
              exact hB
        · have hor : (E == 0 || E == 3) = false := by
            rw [Bool.or_eq_false_iff]
            exact ⟨by simpa using fun h => hE (Or.inl h), by simpa using fun h => hE (Or.inr h)⟩
          rw [hor]
          clear FL
          go_wp2_with fail
          go_meet
          exact hB
      case rest => as_aux_lemma =>
        clear FL HH hI hB
        have hB := hcut
        clear hcut
        go_wp2_with fail
        refine (spec_DrawStepsToHot a1 n1 c1 _ (HZ1.out.below hB) hlen.2).mono ?_
        rintro e w1 ⟨x, h', c', t, rfl, hb⟩
        replace hB := hB.trans (hb.mono hB.size)
        clear hb
        go_wp2_with fail
        refine (impl_StepsToHot x h' c' t _).mono ?_
        rintro e w2 ⟨rfl, hb⟩
        replace hB := hB.trans (hb.mono hB.size)
        clear hb
        have FL := Lib.hid (fun h => @hot_law x h' c' t h)
        have kH := fun N W => impl_HeatAfter x h' c' N W
        generalize hotE x h' c' t = E2 at *
        generalize hotN x h' c' t = N at *
        go_upto_if 140 with fail
        go_cut [] (fun W => Below w.heap.size w W)
        case first => as_aux_lemma =>
          by_cases hE : E2 = 0
          · subst hE
            obtain ⟨m0, m1, e1, e2, e3⟩ := FL.out rfl
            have k1 := kH N
            have k2 := kH (N - 1)
            rw [e1] at k1
            clear kH FL e1
            generalize aftN x h' c' N = A1 at *
            have d2 : decide (A1 ≤ t) = false := decide_eq_false (by omega)
            go_wp2_with fail
            refine (k1 _).mono ?_
            rintro e w3 ⟨rfl, hb⟩
            replace hB := hB.trans (hb.mono hB.size)
            clear hb
            go_wp2_with fail
            refine (k2 _).mono ?_
            rintro e w4 ⟨rfl, hb⟩
            replace hB := hB.trans (hb.mono hB.size)
            clear hb k1 k2
            by_cases h0 : 0 < N
            · obtain ⟨e4, e5⟩ := e3 h0
              rw [e4]
              generalize aftN x h' c' (N - 1) = A2 at *
              have d3 : decide (0 < N) = true := decide_eq_true h0
              have d4 : decide (t < A2) = false := decide_eq_false (by omega)
              clear e3
              go_wp2_with fail
              go_meet
              exact hB
            · have d3 : decide (0 < N) = false := decide_eq_false h0
              generalize aftN x h' c' (N - 1) = A2 at *
              generalize aftE x h' c' (N - 1) = E4 at *
              clear e3
              go_wp2_with fail
              go_meet
              exact hB
          · have g0 : (E2 == 0) = false := by simpa using hE
            clear FL kH
            go_wp2_with fail
            go_meet
            exact hB
        case rest => as_aux_lemma =>
          clear FL kH hB
          have hB := hcut
          clear hcut
          go_wp2_with fail
          refine (spec_DrawPeakFree a0 n0 c0 _ (HZ0.out.below hB) hlen.1).mono ?_
          rintro e w1 ⟨aF, nF, cF, F, t3, rfl, n613, hI, hb⟩
          replace hB := hB.trans (hb.mono hB.size)
          clear hb
          go_wp2_with fail
          refine (impl_PeakFree aF nF cF F t3 _ hI (by omega)).mono ?_
          rintro e w2 ⟨⟨aO, m, cO, rfl, hres⟩, hb⟩
          replace hB := hB.trans (hb.mono hB.size)
          replace hI := hI.below hb
          clear hb
          have FR := Lib.hid hres
          have FL := Lib.hid (fun h => @peak_law F nF t3 h)
          have FO := Lib.hid (fun h => peak_bd (@peak_ok F nF t3 h))
          clear hres
          generalize peakE F nF t3 = E3 at *
          generalize peakF F nF t3 = PK at *
          go_upto_if 190 with fail
          go_cut [] (fun W => Below w.heap.size w W)
          case first => as_aux_lemma =>
            by_cases hE : E3 = 0
            · subst hE
              obtain ⟨hmp, hL⟩ := FR.out rfl
              subst hmp
              obtain ⟨f60, fge, fsum, flow, fpre, fbd, ft⟩ := FL.out rfl
              obtain ⟨fn60, ft1, _, fF⟩ := FO.out rfl
              have k1 := fun W h => laws_b10Sum aO m cO (lowV F nF t3) W h (by omega) (fun j hj => by have := flow j; omega)
              have k2 := fun W h => laws_b10Sum aF nF cF F W h (by omega) (fun j hj => by have := fF j hj; omega)
              rw [fsum] at k1
              have mn : ¬ (m : Int) < (nF : Int) := by omega
              have HFL := Lib.hid flow
              have HFP := Lib.hid fpre
              have HFB := Lib.hid fbd
              have HFF := Lib.hid fF
              clear FR FL FO flow fpre fbd fsum fF
              generalize sumV F nF = SF at *
              go_wp2_with fail
              refine (k1 _ hL).mono ?_
              rintro e w3 ⟨rfl, rfl⟩
              go_wp2_with fail
              refine (k2 _ hI).mono ?_
              rintro e w3 ⟨rfl, rfl⟩
              clear k1 k2
              go_wp2_with fail
              go_loop [28, 29, 30] (fun x y i => ∃ j : Nat, j ≤ m ∧ i = .int .i64 (j : Int) ∧ x = .int .i64 (sumV (lowV F nF t3) j) ∧ y = .int .i64 (sumV (fAt F nF) j)) (fun _ _ i => m - (intOf i).toNat)
              case atStart => exact ⟨0, by omega, rfl, rfl, rfl⟩
              case round => as_aux_lemma =>
                obtain ⟨j, hj, rfl, rfl, rfl⟩ := hrel
                by_cases hlt : j < m
                · obtain ⟨b, o, ea, lb, hcz⟩ := id hL (by omega)
                  subst ea
                  have cj := hcz j hlt
                  have j0 : (j : Int) < (m : Int) := by omega
                  obtain ⟨l0, l1⟩ := HFL.out j
                  have p1 := HFP.out (j + 1)
                  obtain ⟨b0, b1⟩ := HFB.out (j + 1) (by omega)
                  have p2 := HFP.out j
                  obtain ⟨b2, b3⟩ := HFB.out j (by omega)
                  have HS1 := Lib.hid (sumV_succ (lowV F nF t3) j)
                  have HS2 := Lib.hid (sumV_succ (fAt F nF) j)
                  rw [sumV_succ, sumV_succ] at p1
                  rw [sumV_succ] at b0 b1
                  clear hcz HFL HFP HFB
                  by_cases hjn : j < nF
                  · obtain ⟨b', o', eb, lb', hcf⟩ := id hI (by omega)
                    subst eb
                    have cf := hcf j hjn
                    have hfa : fAt F nF j = F j := by unfold fAt; rw [if_pos hjn]
                    obtain ⟨y0, y1⟩ := HFF.out j hjn
                    rw [hfa] at p1 b1 HS2
                    have jn : (j : Int) < (nF : Int) := by omega
                    clear hcf hfa HFF
                    generalize sumV (lowV F nF t3) j = S1 at *
                    generalize sumV (fAt F nF) j = S2 at *
                    generalize lowV F nF t3 j = lo at *
                    generalize F j = fj at *
                    have d1 : decide (lo < 0) = false := decide_eq_false (by omega)
                    have d2 : decide (t3 < lo) = false := decide_eq_false (by omega)
                    have d3 : decide (S2 + fj < S1 + lo) = false := decide_eq_false (by omega)
                    go_wp2
                    go_round
                    case rel => exact ⟨j + 1, by omega, by go_num, by rw [HS1.out], by rw [HS2.out]⟩
                    case measure => simp [intOf]; omega
                  · have hfa : fAt F nF j = 0 := by unfold fAt; rw [if_neg hjn]
                    rw [hfa] at p1 b1 HS2
                    rw [Int.add_zero] at p1 HS2
                    have jn : ¬ (j : Int) < (nF : Int) := by omega
                    clear hfa HFF
                    generalize sumV (lowV F nF t3) j = S1 at *
                    generalize sumV (fAt F nF) j = S2 at *
                    generalize lowV F nF t3 j = lo at *
                    have d1 : decide (lo < 0) = false := decide_eq_false (by omega)
                    have d2 : decide (t3 < lo) = false := decide_eq_false (by omega)
                    have d3 : decide (S2 < S1 + lo) = false := decide_eq_false (by omega)
                    go_wp2
                    go_round
                    case rel => exact ⟨j + 1, by omega, by go_num, by rw [HS1.out], by rw [HS2.out]⟩
                    case measure => simp [intOf]; omega
                · obtain rfl : j = m := by omega
                  go_wp2_with fail
                  go_meet
                  exact hB
            · have g0 : (E3 == 0) = false := by simpa using hE
              clear FR FL FO
              go_wp2_with fail
              go_meet
              exact hB
          case rest => as_aux_lemma =>
            clear FR FL FO hB hI
            have hB := hcut
            clear hcut
            go_wp2_with fail
            refine (spec_DrawCheapestHours a1 n1 c1 _ (HZ1.out.below hB) hlen.2).mono ?_
            rintro e w1 ⟨aP, nP, cP, P, rr, tt, rfl, hd, hI, hb⟩
            replace hB := hB.trans (hb.mono hB.size)
            clear hb
            go_wp2_with fail
            refine (impl_CheapestHours aP nP cP P rr tt _ hI (by omega) (by rcases hd with h | h; exact Or.inl h; exact Or.inr h.2)).mono ?_
            rintro e w2 ⟨⟨aH, m, cH, cost, E5, rfl, hres⟩, hb⟩
            replace hB := hB.trans (hb.mono hB.size)
            replace hI := hI.below hb
            clear hb hd
            rcases hres with ⟨h1, h2, h3⟩ | ⟨rfl, rfl, n60, ⟨r0, r1⟩, ⟨t1, t2⟩, hfit, hP, O, ho, hs, hH, rfl⟩
            · subst h2 h3
              have g0 : (E5 == 0) = false := by simpa using h1
              go_wp2
              go_returns
              exact ⟨rfl, hB⟩
            · obtain ⟨hsum, hcost, hbd, hcond⟩ := hours_law ho hs r0 t1 hfit
              generalize costV rr tt O P m = CO at *
              generalize hrsV rr tt O m = HX at *
              have k1 := fun W h => laws_b10Sum aH m cH HX W h (by omega) (fun j hj => by have := hbd j hj; omega)
              rw [hsum] at k1
              have hpb := sum_prod_bd (n := m) (X := HX) (P := P) (fun j hj => by have := hbd j hj; omega) hP
              have HPB := Lib.hid hpb
              have HBD := Lib.hid hbd
              have HCD := Lib.hid hcond
              have HPP := Lib.hid hP
              have HCO := Lib.hid hcost
              clear hpb hbd hcond hP hcost hsum ho hs
              go_wp2_with fail
              refine (k1 _ hH).mono ?_
              rintro e w3 ⟨rfl, rfl⟩
              clear k1
              go_wp2_with fail
              go_loopw [37, 38] (fun x i wr => ∃ j : Nat, j ≤ m ∧ i = .int .i64 (j : Int) ∧ x = .int .i64 (sumV (fun j => HX j * P j) j) ∧ IntsAt wr aH m HX ∧ IntsAt wr aP m P ∧ Below w.heap.size w wr) (fun _ i _ => m - (intOf i).toNat)
              case atStart => exact ⟨0, by omega, rfl, rfl, hH, hI, hB⟩
              case round => as_aux_lemma =>
                clear hH hI hB
                obtain ⟨j, hj, rfl, rfl, hH, hI, hB⟩ := hrel
                by_cases hlt : j < m
                · obtain ⟨b, o, ea, lb, hch⟩ := id hH (by omega)
                  obtain ⟨b', o', eb, lb', hcp⟩ := id hI (by omega)
                  subst ea eb
                  have ch := hch j hlt
                  have cp := hcp j hlt
                  have j0 : (j : Int) < (m : Int) := by omega
                  obtain ⟨s0, s1⟩ := HPB.out j (by omega)
                  obtain ⟨x0, x1⟩ := HBD.out j hlt
                  obtain ⟨y0, y1⟩ := HPP.out j hlt
                  have mb := mul_bd x0 (show HX j ≤ 1000 by omega) y0 y1
                  have HS := Lib.hid (sumV_succ (fun j => HX j * P j) j)
                  have HC := Lib.hid (fun q hq h1 h2 => HCD.out j q hlt hq h1 h2)
                  clear hch hcp HCD HPB HPP
                  generalize sumV (fun j => HX j * P j) j = S at *
                  generalize hhx : HX j = hx at *
                  generalize hpx : P j = px at *
                  have HHX := Lib.hid (And.intro hhx hpx)
                  clear hhx hpx
                  go_upto_region 46 with fail
                  (refine wp_region_cls (by kernel_rfl) (by kernel_rfl) ?_; (repeat (go_big_quiet_step (fail))); refine wpQuiet_nil ?_; rintro _ ⟨u, rfl⟩; have hb := u.below; replace hB := hB.trans (hb.mono hB.size); generalize u.w = w' at *; obtain ⟨hc, hf, hs⟩ := bkeep hb; have hq' := hb.size; have hq := hB.size; have hb' := hb; clear hb)
                  clear ch cp lb lb' hc hf hs hq' hq
                  replace hH := hH.below hb'
                  replace hI := hI.below hb'
                  clear hb'
                  go_wp2_with fail
                  go_loopw [39] (fun i wr => ∃ q : Nat, q ≤ m ∧ i = .int .i64 (q : Int) ∧ IntsAt wr (some ⟨b, o, none⟩) m HX ∧ IntsAt wr (some ⟨b', o', none⟩) m P ∧ Below w.heap.size w wr) (fun i _ => m - (intOf i).toNat)
                  case atStart => exact ⟨0, by omega, rfl, hH, hI, hB⟩
                  case round =>
                    clear hH hI hB
                    obtain ⟨q, hq', rfl, hH, hI, hB⟩ := hrel
                    have hh1 := (HHX.out).1
                    have hh2 := (HHX.out).2
                    obtain ⟨b1, o1, ea, lb, hch⟩ := id hH (by omega)
                    obtain ⟨rfl, rfl⟩ : b = b1 ∧ o = o1 := by injection ea with ea; injection ea with e1 e2; exact ⟨e1, e2⟩
                    obtain ⟨b2, o2, eb, lb', hcp⟩ := id hI (by omega)
                    obtain ⟨rfl, rfl⟩ : b' = b2 ∧ o' = o2 := by injection eb with eb; injection eb with e1 e2; exact ⟨e1, e2⟩
                    have cj : wr.cell? ⟨b, o + j, none⟩ = some (.int .i64 hx) := by rw [← hh1]; exact hch j hlt
                    have cpj : wr.cell? ⟨b', o' + j, none⟩ = some (.int .i64 px) := by rw [← hh2]; exact hcp j hlt
                    by_cases hlt2 : q < m
                    · have cq := hch q hlt2
                      have cpq := hcp q hlt2
                      have q0 : (q : Int) < (m : Int) := by omega
                      have hcc := HC.out q hlt2
                      clear hch hcp ea eb hh1 hh2 HC
                      generalize HX q = hq2 at *
                      generalize P q = pq at *
                      go_upto_region 50 with fail
                      by_cases z0 : 0 < hx
                      · have d0 : decide (0 < hx) = true := decide_eq_true z0
                        by_cases z1 : pq < px
                        · have d1 : decide (pq < px) = true := decide_eq_true z1
                          have z2 := hcc z0 z1
                          have d2 : decide (hq2 < tt) = false := decide_eq_false (by omega)
                          (refine wp_region_cls (by kernel_rfl) (by kernel_rfl) ?_; (repeat (go_big_quiet_step (fail))); refine wpQuiet_nil ?_; rintro _ ⟨u, rfl⟩; have hb := u.below; replace hB := hB.trans (hb.mono hB.size); generalize u.w = w' at *; obtain ⟨hc, hf, hs⟩ := bkeep hb; have hq' := hb.size; have hq := hB.size; have hb' := hb; clear hb)
                          clear cj cpj cq cpq lb lb' hc hf hs hcc hq
                          replace hH := hH.below hb'
                          replace hI := hI.below hb'
                          go_wp2
                          go_roundw
                          case rel => exact ⟨q + 1, by omega, by go_num, hH, hI, hB⟩
                          case measure => simp [intOf]; omega
                        · have d1 : decide (pq < px) = false := decide_eq_false z1
                          (refine wp_region_cls (by kernel_rfl) (by kernel_rfl) ?_; (repeat (go_big_quiet_step (fail))); refine wpQuiet_nil ?_; rintro _ ⟨u, rfl⟩; have hb := u.below; replace hB := hB.trans (hb.mono hB.size); generalize u.w = w' at *; obtain ⟨hc, hf, hs⟩ := bkeep hb; have hq' := hb.size; have hq := hB.size; have hb' := hb; clear hb)
                          clear cj cpj cq cpq lb lb' hc hf hs hcc hq
                          replace hH := hH.below hb'
                          replace hI := hI.below hb'
                          go_wp2
                          go_roundw
                          case rel => exact ⟨q + 1, by omega, by go_num, hH, hI, hB⟩
                          case measure => simp [intOf]; omega
                      · have d0 : decide (0 < hx) = false := decide_eq_false z0
                        (refine wp_region_cls (by kernel_rfl) (by kernel_rfl) ?_; (repeat (go_big_quiet_step (fail))); refine wpQuiet_nil ?_; rintro _ ⟨u, rfl⟩; have hb := u.below; replace hB := hB.trans (hb.mono hB.size); generalize u.w = w' at *; obtain ⟨hc, hf, hs⟩ := bkeep hb; have hq' := hb.size; have hq := hB.size; have hb' := hb; clear hb)
                        clear cj cpj cq cpq lb lb' hc hf hs hcc hq
                        replace hH := hH.below hb'
                        replace hI := hI.below hb'
                        go_wp2
                        go_roundw
                        case rel => exact ⟨q + 1, by omega, by go_num, hH, hI, hB⟩
                        case measure => simp [intOf]; omega
                    · obtain rfl : q = m := by omega
                      have d1 : decide (hx < 0) = false := decide_eq_false (by omega)
                      have d2 : decide (tt < hx) = false := decide_eq_false (by omega)
                      have HS2 := HS.out
                      try rw [hh1, hh2] at HS2
                      have HS3 := Lib.hid HS2
                      clear HS HS2 hch hcp ea eb hh1 hh2 HC
                      go_wp2
                      go_roundw
                      case rel => exact ⟨j + 1, by omega, by go_num, by rw [HS3.out], hH, hI, hB⟩
                      case measure => simp [intOf]; omega
                · obtain rfl : j = m := by omega
                  rw [HCO.out]
                  go_wp2
                  go_returns
                  exact ⟨rfl, hB⟩
  · by_cases h0 : 1048576 < n0
    · rw [decide_eq_true (show (1048576 : Int) < (n0 : Int) by omega)] at kl0
      clear kl1
      go_enter Try.func3, Try.ntmps3
      go_wp2_with fail
      refine (kl0 _).mono ?_
      rintro e w' ⟨rfl, rfl⟩
      go_wp2_with fail
      go_returns
      exact ⟨rfl, Below.refl _ _⟩
    · rw [decide_eq_false (show ¬ (1048576 : Int) < (n0 : Int) by omega)] at kl0
      rw [decide_eq_true (show (1048576 : Int) < (n1 : Int) by omega)] at kl1
      go_enter Try.func3, Try.ntmps3
      go_wp2_with fail
      refine (kl0 _).mono ?_
      rintro e w' ⟨rfl, rfl⟩
      go_wp2_with fail
      refine (kl1 _).mono ?_
      rintro e w' ⟨rfl, rfl⟩
      go_wp2_with fail
      go_returns
      exact ⟨rfl, Below.refl _ _⟩

end Go.Proofs.Ytejhngkbkcalaaa
