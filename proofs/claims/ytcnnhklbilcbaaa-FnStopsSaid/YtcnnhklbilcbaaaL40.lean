/-
  Walk of the law FnStops.
-/
import Derived.Test.YtcnnhklbilcbaaaRt
import Derived.Test.YtcnnhklbilcbaaaPsl
namespace Go.Proofs.Ytcnnhklbilcbaaa
open Go.RowKit
set_option linter.unusedVariables false
set_option linter.unusedSimpArgs false

/-- Cells that a walk holds. -/
def Held (W : World) (L : List (Nat × Nat × Value)) : Prop := ∀ x, x ∈ L → x.1 < W.heap.size ∧ W.cell? ⟨x.1, x.2.1, none⟩ = some x.2.2
theorem Held.below {W W' : World} {L : List (Nat × Nat × Value)} (h : Held W L) (k : Below W.heap.size W W') : Held W' L := fun x hx =>
  ⟨Nat.lt_of_lt_of_le (h x hx).1 k.size, (k.cell (p := ⟨x.1, x.2.1, none⟩) (h x hx).1).trans (h x hx).2⟩
theorem Held.get {W : World} {L : List (Nat × Nat × Value)} (h : Held W L) (i : Nat) (x : Nat × Nat × Value) (hx : L[i]? = some x) : W.cell? ⟨x.1, x.2.1, none⟩ = some x.2.2 :=
  (h x (List.mem_of_getElem? hx)).2
theorem Held.nil (W : World) : Held W [] := fun x hx => by cases hx
theorem Held.cons {W : World} {L : List (Nat × Nat × Value)} {b o : Nat} {v : Value} (h : Held W L) (hb : b < W.heap.size) (hc : W.cell? ⟨b, o, none⟩ = some v) : Held W ((b, o, v) :: L) := fun x hx => by
  rcases List.mem_cons.1 hx with rfl | hx
  · exact ⟨hb, hc⟩
  · exact h x hx

set_option maxHeartbeats 16000000 in
set_option maxRecDepth 100000 in
theorem law_FnStops (a0 : Option Addr) (n0 c0 : Nat) (a1 : Option Addr) (n1 c1 : Nat) (w : World) (hz0 : BytesAt w a0 n0) (hz1 : BytesAt w a1 n1) :
    Calls Try.prog 3 #[.slice a0 n0 c0, .slice a1 n1 c1] w fun e w' => e = .returned (.bool true) ∧ Below w.heap.size w w' := by
  have kl := fun W => laws_r8Long a0 a1 n0 n1 c0 c1 W
  by_cases hlen : n0 ≤ 1048576 ∧ n1 ≤ 1048576
  · rw [decide_eq_false (show ¬ 1048576 < n0 by omega), decide_eq_false (show ¬ 1048576 < n1 by omega), Bool.or_false] at kl
    have HZ0 := Lib.hid hz0
    have HZ1 := Lib.hid hz1
    clear hz0 hz1
    go_enter Try.func3, Try.ntmps3
    go_wp2_with (first | (go_at_call 4; (with_reducible refine (kl _).mono ?_); rintro e w' ⟨rfl, rfl⟩) | fail)
    refine (spec_R8Track a0 n0 c0 _ HZ0.out hlen.1).mono ?_
    rintro e wa ⟨⟨aT, n, cT, L, G, lf, lu, rfl, hP, hok⟩, hba⟩
    have HOK := Lib.hid hok
    clear hok kl
    have RT := Row3.made wa (.slice aT n cT) (.int .i64 lf) (.int .i64 lu) 26
    have bA : Below wa.heap.size wa (wa.alloc (Obj.cells #[.slice aT n cT, .int .i64 lf, .int .i64 lu] 26)) := Below.alloc (Below.refl _ _) (Nat.le_refl _) _
    have hP1 := hP.below bA
    have hB1 := hba.trans (bA.mono hba.size)
    clear hP hba bA
    go_upto_region 4 with fail
    generalize wa.alloc (Obj.cells #[.slice aT n cT, .int .i64 lf, .int .i64 lu] 26) = wb at *
    generalize wa.heap.size = T at *
    clear wa
    have HH : Held wb [(T, 0, .slice aT n cT), (T, 1, .int .i64 lf), (T, 2, .int .i64 lu)] := (((Held.nil wb).cons RT.lt RT.c2).cons RT.lt RT.c1).cons RT.lt RT.c0
    clear RT
    go_wp2_with fail
    refine (spec_R8Brake a1 n1 c1 _ (HZ1.out.below hB1) hlen.2).mono ?_
    rintro e wc ⟨d, f, rfl, d0, d1, f0, f1, hbc⟩
    have hvb : validBrake d f = true := by unfold validBrake; rw [Bool.and_eq_true, inB_true, inB_true]; omega
    have HVB := Lib.hid hvb
    have X0 : (wc.alloc (Obj.cells #[.int .i64 d, .int .i64 f] 29)).cell? ⟨wc.heap.size, 0, none⟩ = some (.int .i64 d) := by go_cell
    have X1 : (wc.alloc (Obj.cells #[.int .i64 d, .int .i64 f] 29)).cell? ⟨wc.heap.size, 1, none⟩ = some (.int .i64 f) := by go_cell
    have lX : wc.heap.size < (wc.alloc (Obj.cells #[.int .i64 d, .int .i64 f] 29)).heap.size := by simp
    have bA : Below wc.heap.size wc (wc.alloc (Obj.cells #[.int .i64 d, .int .i64 f] 29)) := Below.alloc (Below.refl _ _) (Nat.le_refl _) _
    have hP2 := (hP1.below hbc).below bA
    have HH2 := ((HH.below hbc).below bA)
    have hB2 := (hB1.trans (hbc.mono hB1.size)).trans (bA.mono (Nat.le_trans hB1.size hbc.size))
    clear hvb d0 d1 f0 f1 hP1 HH hB1 bA hbc
    go_upto_region 5 with fail
    generalize wc.alloc (Obj.cells #[.int .i64 d, .int .i64 f] 29) = wd at *
    generalize wc.heap.size = B at *
    clear wc
    have HH3 := (HH2.cons lX X1).cons lX X0
    clear HH2 X0 X1 lX
    go_wp2_with fail
    refine (spec_R8Profile a0 n0 c0 _ (HZ0.out.below hB2) hlen.1).mono ?_
    rintro e we ⟨⟨pa, pr, pc, py, rfl, hpr⟩, hbe⟩
    have HPR := Lib.hid hpr
    have RP := Row4.made we (.int .i64 pa) (.int .i64 pr) (.int .i64 pc) (.int .i64 py) 32
    have bA : Below we.heap.size we (we.alloc (Obj.cells #[.int .i64 pa, .int .i64 pr, .int .i64 pc, .int .i64 py] 32)) := Below.alloc (Below.refl _ _) (Nat.le_refl _) _
    have hP3 := (hP2.below hbe).below bA
    have HH4 := ((HH3.below hbe).below bA)
    have hB3 := (hB2.trans (hbe.mono hB2.size)).trans (bA.mono (Nat.le_trans hB2.size hbe.size))
    clear hpr hP2 HH3 hB2 bA hbe
    go_upto_region 6 with fail
    generalize we.alloc (Obj.cells #[.int .i64 pa, .int .i64 pr, .int .i64 pc, .int .i64 py] 32) = wf at *
    generalize we.heap.size = Q at *
    clear we
    have HH := (((HH4.cons RP.lt RP.c3).cons RP.lt RP.c2).cons RP.lt RP.c1).cons RP.lt RP.c0
    clear HH4 RP
    have cT0 : wf.cell? ⟨T, 0, none⟩ = some (.slice aT n cT) := HH.get 6 _ rfl
    have cT1 : wf.cell? ⟨T, 1, none⟩ = some (.int .i64 lf) := HH.get 7 _ rfl
    have cT2 : wf.cell? ⟨T, 2, none⟩ = some (.int .i64 lu) := HH.get 8 _ rfl
    go_wp2_with fail
    refine (spec_TrackLength_ok aT n cT L G lf lu _ hP3 HOK.out).mono ?_
    rintro e wg ⟨rfl, hbg⟩
    clear cT0 cT1 cT2
    have hP := hP3.below hbg
    have HG := HH.below hbg
    have hB := hB3.trans (hbg.mono hB3.size)
    clear hP3 HH hB3 hbg
    obtain ⟨n1', n12, hsec, hlen3⟩ := track_at HOK.out
    have hlen1 : 1 ≤ lenT L n := by
      have h1 := lenT_bd (L := L) (lo := 1) (hi := 3000000) (n := n) (fun j hj => by have := secs_at hsec hj; omega)
      omega
    have HSEC := Lib.hid hsec
    clear hsec
    generalize hln : lenT L n = len at *
    have HLN := Lib.hid hln
    clear hln
    go_upto_region 7 with fail
    go_cut [10] (fun u W => W = wg ∧ ∃ x : Int, u = .int .i64 x ∧ 0 ≤ x ∧ x ≤ len)
    case first => as_aux_lemma =>
      have hne : ¬ len + 1 = 0 := by omega
      go_wp2_with fail
      refine (laws_r8Wide a1 n1 c1 20 60000 _ (HZ1.out.below hB) hlen.2 (by omega) (by omega) (by omega) (by omega)).mono ?_
      rintro e w' ⟨v, rfl, v0, v1, rfl⟩
      go_wp2_with fail
      go_meet
      refine ⟨rfl, _, rfl, ?_, ?_⟩
      all_goals first | exact Int.emod_nonneg _ (by omega) | exact Int.lt_add_one_iff.1 (Int.emod_lt_of_pos _ (by omega)) | (rw [Int.tmod_eq_emod_of_nonneg (by omega)]; first | exact Int.emod_nonneg _ (by omega) | exact Int.lt_add_one_iff.1 (Int.emod_lt_of_pos _ (by omega)))
    case rest => as_aux_lemma =>
      obtain ⟨rfl, x, rfl, x0, x1⟩ := hcut
      go_wp2_with fail
      refine (laws_r8Wide a1 n1 c1 22 1200 _ (HZ1.out.below hB) hlen.2 (by omega) (by omega) (by omega) (by omega)).mono ?_
      rintro e w' ⟨v, rfl, v0, v1, rfl⟩
      obtain ⟨s, hs⟩ : ∃ s : Int, s = 10 * v := ⟨_, rfl⟩
      have e1 : 10 * v = s := hs.symm
      have s0 : 0 ≤ s ∧ s ≤ 15000 := by omega
      clear hs
      go_upto_region 9 with fail
      clear e1
      go_wp2_with fail
      refine (laws_r8At a1 n1 c1 24 2 _ (HZ1.out.below hB) hlen.2 (by omega) (by omega) (by omega)).mono ?_
      rintro e w' ⟨v2, rfl, _, _, rfl⟩
      go_upto_region 10 with fail
      generalize (v2 == 1) = dn at *
      have cT0 : wc.cell? ⟨T, 0, none⟩ = some (.slice aT n cT) := HG.get 6 _ rfl
      obtain ⟨b, o, e, hb, hc⟩ := id hP (by omega)
      subst e
      have cg0 : wc.cell? ⟨b, o + 1, none⟩ = some (.int .i64 (G 0)) := by simpa using (hc 0 (by omega)).2
      have HC := Lib.hid (fun k h => (hc k h).2)
      have n0' : (0 : Int) < (n : Int) := by omega
      clear hc
      go_wp2_with fail
      clear cg0
      go_loop [13, 14] (fun gr i => ∃ k : Nat, 1 ≤ k ∧ k ≤ n ∧ i = .int .i64 (k : Int) ∧ gr = .int .i64 (worstF G (G 0) dn k)) (fun _ i => n - (intOf i).toNat)
      case atStart => exact ⟨1, by omega, n1', rfl, by rw [worst_one]⟩
      case round => as_aux_lemma =>
        obtain ⟨k, k1, hk, rfl, rfl⟩ := hrel
        by_cases hlt : k < n
        · have ck := HC.out k hlt
          have k0 : (k : Int) < (n : Int) := by omega
          cases dn
          · have HM := Lib.hid (worst_min (G := G) (k := k))
            generalize worstF G (G 0) false k = W at *
            generalize G k = gk at *
            go_wp2
            all_goals
              go_round
              case rel => exact ⟨k + 1, by omega, by omega, by go_num, by rw [HM.out]; first | rfl | (congr 1; omega)⟩
              case measure => simp [intOf]; omega
          · have HM := Lib.hid (worst_max (G := G) (k := k))
            generalize worstF G (G 0) true k = W at *
            generalize G k = gk at *
            go_wp2
            all_goals
              go_round
              case rel => exact ⟨k + 1, by omega, by omega, by go_num, by rw [HM.out]; first | rfl | (congr 1; omega)⟩
              case measure => simp [intOf]; omega
        · obtain rfl : k = n := by omega
          clear HC hb n0' k1
          obtain ⟨e1, e2, e3, e4⟩ := stops_worst (x := x) (s := s) (down := dn) HOK.out HVB.out (by rw [HLN.out]; exact ⟨x0, x1⟩) s0
          have kW := fun W => spec_StopWay d f s (worstF G (G 0) dn k) dn W
          have kO := fun W h => impl_StopsOn (some ⟨b, o, none⟩) k cT L G lf lu d f x s dn W h (by omega)
          have kI := fun W h => impl_StopsInTime (some ⟨b, o, none⟩) k cT L G lf lu d f x s dn W h (by omega)
          rw [e1, e2] at kO
          rw [e3, HLN.out] at kI
          clear e1 e2 e3 e4
          generalize stopCode d f s (worstF G (G 0) dn k) dn = C at *
          generalize stopWayV d f s (worstF G (G 0) dn k) dn = V at *
          generalize worstF G (G 0) dn k = gw at *
          have cB0 : wc.cell? ⟨B, 0, none⟩ = some (.int .i64 d) := HG.get 4 _ rfl
          have cB1 : wc.cell? ⟨B, 1, none⟩ = some (.int .i64 f) := HG.get 5 _ rfl
          go_wp2_with fail
          refine (kW _).mono ?_
          rintro e w1 ⟨rfl, hb1⟩
          clear cB0 cB1 cT0 kW
          replace hP := hP.below hb1
          replace HG := HG.below hb1
          replace hB := hB.trans (hb1.mono hB.size)
          clear hb1
          have cB0 : w1.cell? ⟨B, 0, none⟩ = some (.int .i64 d) := HG.get 4 _ rfl
          have cB1 : w1.cell? ⟨B, 1, none⟩ = some (.int .i64 f) := HG.get 5 _ rfl
          have cT0 : w1.cell? ⟨T, 0, none⟩ = some (.slice (some ⟨b, o, none⟩) k cT) := HG.get 6 _ rfl
          have cT1 : w1.cell? ⟨T, 1, none⟩ = some (.int .i64 lf) := HG.get 7 _ rfl
          have cT2 : w1.cell? ⟨T, 2, none⟩ = some (.int .i64 lu) := HG.get 8 _ rfl
          go_wp2_with fail
          refine (kO _ hP).mono ?_
          rintro e w2 ⟨rfl, hb2⟩
          clear cB0 cB1 cT0 cT1 cT2 kO
          replace hP := hP.below hb2
          replace HG := HG.below hb2
          replace hB := hB.trans (hb2.mono hB.size)
          clear hb2
          go_upto_if 107 with fail
          go_cut [19] (fun u W => W = w2 ∧ u = .int .i64 (leftV len x dn))
          case first => as_aux_lemma =>
            cases dn
            all_goals
              go_wp2
              go_meet
              exact ⟨rfl, rfl⟩
          case rest => as_aux_lemma =>
            obtain ⟨rfl, rfl⟩ := hcut
            generalize leftV len x dn = LV at *
            go_upto_region 22 with fail
            go_cut [136] (fun u W => u = .bool false ∧ Below wc.heap.size wc W)
            case first => as_aux_lemma =>
              have cB0 : wc.cell? ⟨B, 0, none⟩ = some (.int .i64 d) := HG.get 4 _ rfl
              have cB1 : wc.cell? ⟨B, 1, none⟩ = some (.int .i64 f) := HG.get 5 _ rfl
              have cT0 : wc.cell? ⟨T, 0, none⟩ = some (.slice (some ⟨b, o, none⟩) k cT) := HG.get 6 _ rfl
              have cT1 : wc.cell? ⟨T, 1, none⟩ = some (.int .i64 lf) := HG.get 7 _ rfl
              have cT2 : wc.cell? ⟨T, 2, none⟩ = some (.int .i64 lu) := HG.get 8 _ rfl
              by_cases hC : C = 0
              · subst hC
                by_cases hV : V ≤ LV
                · rw [decide_eq_true hV, show ((0 : Int) == 0 && true) = true from rfl] at kI
                  go_wp2_with fail
                  refine (kI _ hP).mono ?_
                  rintro e w3 ⟨rfl, hb3⟩
                  go_wp2_with fail
                  go_meet
                  exact ⟨rfl, hb3⟩
                · rw [decide_eq_false hV, show ((0 : Int) == 0 && false) = false from rfl] at kI
                  go_wp2_with fail
                  refine (kI _ hP).mono ?_
                  rintro e w3 ⟨rfl, hb3⟩
                  go_wp2_with fail
                  go_meet
                  exact ⟨by first | rfl | rw [decide_eq_false hV] | simp [hV], hb3⟩
              · rw [beq_eq_false_iff_ne.2 hC, Bool.false_and] at kI
                go_wp2_with fail
                refine (kI _ hP).mono ?_
                rintro e w3 ⟨rfl, hb3⟩
                go_wp2_with fail
                go_meet
                exact ⟨rfl, hb3⟩
            case rest => as_aux_lemma =>
              obtain ⟨rfl, hb3⟩ := hcut
              replace hP := hP.below hb3
              replace HG := HG.below hb3
              replace hB := hB.trans (hb3.mono hB.size)
              clear hb3 kI
              obtain ⟨LA, hfl, la1, la2, tl, hsafe⟩ := first_last (down := dn) HOK.out HVB.out HPR.out (by rw [HLN.out]; exact hlen1)
              rw [HLN.out] at hfl la2 tl hsafe
              have kF := fun W h => impl_FirstUnsafe (some ⟨b, o, none⟩) k cT L G lf lu d f pa pr pc py dn W h (by omega)
              have kR := fun W => spec_RideTime_ok pa pr pc py len W HPR.out (by omega) hlen3
              have kP := fun m W hm hm2 => spec_PlaceAfter_ok pa pr pc py len m W HPR.out (by omega) hlen3 hm hm2
              have HBD := Lib.hid (fun m => ride_bd (a := pa) (r := pr) (c := pc) (y := py) (n := len) HPR.out (by omega) m)
              have HSA := Lib.hid hsafe
              have HFL := Lib.hid hfl
              have kP := fun m W hm => kP m W hm (by omega)
              clear hfl hsafe
              generalize firstV L G k lf lu d f pa pr pc py dn = FV at *
              generalize firstC L G k lf lu d f pa pr pc py dn = FC at *
              generalize timeN pa pr pc py len = TN at *
              go_upto_region 24 with fail
              have cB0 : wc.cell? ⟨B, 0, none⟩ = some (.int .i64 d) := HG.get 4 _ rfl
              have cB1 : wc.cell? ⟨B, 1, none⟩ = some (.int .i64 f) := HG.get 5 _ rfl
              have cT0 : wc.cell? ⟨T, 0, none⟩ = some (.slice (some ⟨b, o, none⟩) k cT) := HG.get 6 _ rfl
              have cT1 : wc.cell? ⟨T, 1, none⟩ = some (.int .i64 lf) := HG.get 7 _ rfl
              have cT2 : wc.cell? ⟨T, 2, none⟩ = some (.int .i64 lu) := HG.get 8 _ rfl
              have cQ0 : wc.cell? ⟨Q, 0, none⟩ = some (.int .i64 pa) := HG.get 0 _ rfl
              have cQ1 : wc.cell? ⟨Q, 1, none⟩ = some (.int .i64 pr) := HG.get 1 _ rfl
              have cQ2 : wc.cell? ⟨Q, 2, none⟩ = some (.int .i64 pc) := HG.get 2 _ rfl
              have cQ3 : wc.cell? ⟨Q, 3, none⟩ = some (.int .i64 py) := HG.get 3 _ rfl
              go_wp2_with fail
              refine (kF _ hP).mono ?_
              rintro e w4 ⟨rfl, hb4⟩
              clear cB0 cB1 cT0 cT1 cT2 cQ0 cQ1 cQ2 cQ3 kF
              replace hP := hP.below hb4
              replace HG := HG.below hb4
              replace hB := hB.trans (hb4.mono hB.size)
              clear hb4
              have cQ0 : w4.cell? ⟨Q, 0, none⟩ = some (.int .i64 pa) := HG.get 0 _ rfl
              have cQ1 : w4.cell? ⟨Q, 1, none⟩ = some (.int .i64 pr) := HG.get 1 _ rfl
              have cQ2 : w4.cell? ⟨Q, 2, none⟩ = some (.int .i64 pc) := HG.get 2 _ rfl
              have cQ3 : w4.cell? ⟨Q, 3, none⟩ = some (.int .i64 py) := HG.get 3 _ rfl
              go_wp2_with fail
              refine (kR _).mono ?_
              rintro e w5 ⟨rfl, hb5⟩
              clear cQ0 cQ1 cQ2 cQ3 kR
              replace hP := hP.below hb5
              replace HG := HG.below hb5
              replace hB := hB.trans (hb5.mono hB.size)
              clear hb5
              go_upto_region 26 with fail
              go_cut [169] (fun u W => W = w5 ∧ u = .bool false)
              case first => as_aux_lemma =>
                rcases HFL.out with ⟨h1, h2⟩ | ⟨h1, h2⟩
                · subst h1 h2
                  go_wp2
                  go_meet
                  exact ⟨rfl, rfl⟩
                · subst h1
                  go_wp2
                  go_meet
                  exact ⟨rfl, rfl⟩
              case rest => as_aux_lemma =>
                obtain ⟨rfl, rfl⟩ := hcut
                go_upto_if 172 with fail
                go_cut [24] (fun u W => W = wc ∧ u = .int .i64 (LA : Int))
                case first => as_aux_lemma =>
                  rcases HFL.out with ⟨h1, h2⟩ | ⟨h1, h2⟩
                  · subst h1 h2
                    go_wp2
                    go_meet
                    exact ⟨rfl, rfl⟩
                  · subst h1 h2
                    go_wp2
                    go_meet
                    exact ⟨rfl, rfl⟩
                case rest => as_aux_lemma =>
                  obtain ⟨rfl, rfl⟩ := hcut
                  have la0 : ¬ (LA : Int) = 0 := by omega
                  go_wp2_with fail
                  go_loopw [25] (fun i wr => ∃ q : Nat, q ≤ 3 ∧ i = .int .i64 (q : Int) ∧ PassAt wr (some ⟨b, o, none⟩) k L G ∧ Held wr [(Q, 0, .int .i64 pa), (Q, 1, .int .i64 pr), (Q, 2, .int .i64 pc), (Q, 3, .int .i64 py), (B, 0, .int .i64 d), (B, 1, .int .i64 f), (T, 0, .slice (some ⟨b, o, none⟩) k cT), (T, 1, .int .i64 lf), (T, 2, .int .i64 lu)] ∧ Below w.heap.size w wr) (fun i _ => 3 - (intOf i).toNat)
                  case atStart => exact ⟨0, by omega, rfl, hP, HG, hB⟩
                  case round => as_aux_lemma =>
                    clear hP HG hB
                    obtain ⟨q, hq, rfl, hP, HG, hB⟩ := hrel
                    by_cases hlt : q < 3
                    · have hlt2 : (q : Int) < 3 := by omega
                      go_wp2_with fail
                      refine (laws_r8Wide a1 n1 c1 (30 + 2 * (q : Int)) 60000 _ (HZ1.out.below hB) hlen.2 (by omega) (by omega) (by omega) (by omega)).mono ?_
                      rintro e w' ⟨z, rfl, z0, z1, rfl⟩
                      have t0 : 0 ≤ z % (LA : Int) := Int.emod_nonneg _ la0
                      have t1 : z % (LA : Int) < LA := Int.emod_lt_of_pos _ (by omega)
                      go_upto_if 187 with fail
                      go_cut [26] (fun u W => W = wr ∧ ∃ m : Nat, u = .int .i64 (m : Int) ∧ 1 ≤ m ∧ m ≤ LA)
                      case first => as_aux_lemma =>
                        by_cases q2 : (q : Int) = 2
                        · go_wp2
                          go_meet
                          exact ⟨rfl, LA, rfl, la1, Nat.le_refl _⟩
                        · go_wp2
                          go_meet
                          refine ⟨rfl, (1 + z % (LA : Int)).toNat, ?_, by omega, by omega⟩
                          rw [Int.toNat_of_nonneg (by omega)]
                          all_goals first | rfl | rw [Int.tmod_eq_emod_of_nonneg z0]
                      case rest => as_aux_lemma =>
                        obtain ⟨rfl, m, rfl, m1, m2⟩ := hcut
                        have hsm := HSA.out m m1 m2
                        obtain ⟨⟨b1, b2⟩, ⟨b3, b4⟩, b5⟩ := HBD.out m
                        have kp := fun W => kP m W (by omega)
                        have kS := fun W h => spec_StopsInTime (some ⟨b, o, none⟩) k cT L G lf lu d f (xV len (placeK pa pr pc py len m) dn) (speedK pa pr pc py len m) dn W h (by omega)
                        clear kP b5 t0 t1 z0 z1
                        generalize placeK pa pr pc py len m = P at *
                        generalize speedK pa pr pc py len m = S at *
                        have cQ0 : wc.cell? ⟨Q, 0, none⟩ = some (.int .i64 pa) := HG.get 0 _ rfl
                        have cQ1 : wc.cell? ⟨Q, 1, none⟩ = some (.int .i64 pr) := HG.get 1 _ rfl
                        have cQ2 : wc.cell? ⟨Q, 2, none⟩ = some (.int .i64 pc) := HG.get 2 _ rfl
                        have cQ3 : wc.cell? ⟨Q, 3, none⟩ = some (.int .i64 py) := HG.get 3 _ rfl
                        go_wp2_with fail
                        refine (kp _).mono ?_
                        rintro e w6 ⟨rfl, hb6⟩
                        clear cQ0 cQ1 cQ2 cQ3 kp
                        replace hP := hP.below hb6
                        replace HG := HG.below hb6
                        replace hB := hB.trans (hb6.mono hB.size)
                        clear hb6
                        go_upto_if 198 with fail
                        go_cut [30] (fun u W => W = w6 ∧ u = .int .i64 (xV len P dn))
                        case first => as_aux_lemma =>
                          cases dn
                          all_goals
                            go_wp2
                            go_meet
                            exact ⟨rfl, rfl⟩
                        case rest => as_aux_lemma =>
                          obtain ⟨rfl, rfl⟩ := hcut
                          generalize xV len P dn = X at *
                          generalize stopsInB L G k lf lu d f X S dn = SB at *
                          obtain ⟨SR, hSR⟩ : ∃ SR : Bool, SR = (!(FC == 0) || decide ((m : Int) < FV)) := ⟨_, rfl⟩
                          rw [← hSR] at hsm
                          go_upto_region 41 with fail
                          go_cut [31] (fun u W => u = .bool SR ∧ Below wc.heap.size wc W)
                          case first => as_aux_lemma =>
                            clear hSR
                            by_cases hPl : P = len
                            · have hr : (P == len || SB) = true := by rw [hPl]; simp
                              rw [hr] at hsm
                              subst hsm
                              go_wp2
                              go_meet
                              exact ⟨rfl, Below.refl _ _⟩
                            · have hr : (P == len || SB) = SB := by rw [beq_eq_false_iff_ne.2 hPl]; rfl
                              rw [hr] at hsm
                              subst hsm
                              have cB0 : wc.cell? ⟨B, 0, none⟩ = some (.int .i64 d) := HG.get 4 _ rfl
                              have cB1 : wc.cell? ⟨B, 1, none⟩ = some (.int .i64 f) := HG.get 5 _ rfl
                              have cT0 : wc.cell? ⟨T, 0, none⟩ = some (.slice (some ⟨b, o, none⟩) k cT) := HG.get 6 _ rfl
                              have cT1 : wc.cell? ⟨T, 1, none⟩ = some (.int .i64 lf) := HG.get 7 _ rfl
                              have cT2 : wc.cell? ⟨T, 2, none⟩ = some (.int .i64 lu) := HG.get 8 _ rfl
                              go_wp2_with fail
                              refine (kS _ hP).mono ?_
                              rintro e w7 ⟨rfl, hb7⟩
                              go_wp2_with fail
                              go_meet
                              exact ⟨rfl, hb7⟩
                          case rest => as_aux_lemma =>
                            obtain ⟨rfl, hb8⟩ := hcut
                            replace hP := hP.below hb8
                            replace HG := HG.below hb8
                            replace hB := hB.trans (hb8.mono hB.size)
                            clear hb8 hsm kS
                            rcases HFL.out with ⟨h1, h2⟩ | ⟨h1, h2⟩
                            · subst h1 h2
                              by_cases hm : (m : Int) < (LA : Int)
                              · obtain rfl : SR = true := by rw [hSR, decide_eq_true hm]; rfl
                                clear hSR
                                go_wp2
                                go_roundw
                                case rel => exact ⟨q + 1, by omega, by go_num, hP, HG, hB⟩
                                case measure => simp [intOf]; omega
                              · obtain rfl : SR = false := by rw [hSR, decide_eq_false hm]; rfl
                                clear hSR
                                go_wp2
                                go_roundw
                                case rel => exact ⟨q + 1, by omega, by go_num, hP, HG, hB⟩
                                case measure => simp [intOf]; omega
                            · subst h1
                              obtain rfl : SR = true := by rw [hSR]; rfl
                              clear hSR
                              go_wp2
                              go_roundw
                              case rel => exact ⟨q + 1, by omega, by go_num, hP, HG, hB⟩
                              case measure => simp [intOf]; omega
                    · obtain rfl : q = 3 := by omega
                      go_wp2
                      go_returns
                      exact ⟨rfl, hB⟩
  · have hor : (decide (1048576 < n0) || decide (1048576 < n1)) = true := by
      rw [Bool.or_eq_true, decide_eq_true_eq, decide_eq_true_eq]; omega
    rw [hor] at kl
    go_enter Try.func3, Try.ntmps3
    go_wp2_with (go_at_call 4; (with_reducible refine (kl _).mono ?_); rintro e w' ⟨rfl, rfl⟩)
    go_returns
    exact ⟨rfl, Below.refl _ _⟩

end Go.Proofs.Ytcnnhklbilcbaaa
