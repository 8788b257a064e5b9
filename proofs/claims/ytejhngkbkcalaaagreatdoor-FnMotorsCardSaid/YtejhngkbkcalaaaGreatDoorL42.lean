/-
  Walk of the law FnMotors.
-/
import Derived.Test.YtejhngkbkcalaaaGreatDoorHd
import Derived.Test.YtejhngkbkcalaaaGreatDoorEn
import Derived.Test.YtejhngkbkcalaaaGreatDoorDn
import Derived.Test.YtejhngkbkcalaaaGreatDoorDb
import Derived.Test.YtejhngkbkcalaaaGreatDoorRl
import Derived.Test.YtejhngkbkcalaaaGreatDoorTm
namespace Go.Proofs.YtejhngkbkcalaaaGreatDoor
open Go.RowKit
set_option linter.unusedVariables false
set_option linter.unusedSimpArgs false

theorem motor_small {p m l : Int} (h : motorOk p m l = true) : (listTx (mz p m l) 3).size ≤ 1048576 := by
  have h1 := accL_len (Z := mz p m l) (n := 3) (fun j hj => by have := mz_bd h j hj; omega) 3 (Nat.le_refl _)
  have e : (listTx (mz p m l) 3).size = (accL (mz p m l) 3).length := by unfold listTx listL; rw [if_neg (by decide)]; rw [← len_data]
  omega
theorem speed_bd (p m l f : Int) : speedV' p m l f ≤ 20000 := by
  have := fast_bd p m l f
  unfold speedV'
  split <;> omega
theorem sumS_succ (l s : Int) (F : Nat → Int) (k : Nat) : sumS l s F (k + 1) = sumS l s F k + powV l (F k) s := rfl

theorem run_eq_Motor_same (x0 x1 x2 : Int) (W : World) :
    (binOp .eql 25 (.agg #[.int .i64 x0, .int .i64 x1, .int .i64 x2]) (.agg #[.int .i64 x0, .int .i64 x1, .int .i64 x2])).run Tryz.prog W = .ok (.bool true) W := by
  rw [run_eql_struct]
  generalize hd : 10000 = D
  obtain ⟨d, rfl⟩ : ∃ d, D = d + 1 + 1 := ⟨9998, by omega⟩
  rw [run_equalIn_agg (d := d + 1) (ht := by kernel_rfl) (hp := by kernel_rfl)]
  simp only [Program.fieldsOf, Tryz.underlying25]
  clear hd
  have u2 := Tryz.underlying2
  go_simp
set_option maxHeartbeats 16000000 in
set_option maxRecDepth 100000 in
theorem law_FnMotors (a0 : Option Addr) (n0 c0 : Nat) (a1 : Option Addr) (n1 c1 : Nat) (w : World) (hz0 : BytesAt w a0 n0) (hz1 : BytesAt w a1 n1) (hT : Tabs w) (hM : MaxAt w) :
    Calls Tryz.prog 3 #[.slice a0 n0 c0, .slice a1 n1 c1] w fun e w' => e = .returned (.bool true) ∧ Below w.heap.size w w' := by
  have kl0 := fun W => laws_b10Long a0 n0 c0 W
  have kl1 := fun W => laws_b10Long a1 n1 c1 W
  by_cases hlen : n0 ≤ 1048576 ∧ n1 ≤ 1048576
  · rw [decide_eq_false (show ¬ (1048576 : Int) < (n0 : Int) by omega)] at kl0
    rw [decide_eq_false (show ¬ (1048576 : Int) < (n1 : Int) by omega)] at kl1
    have HZ0 := Lib.hid hz0
    have HZ1 := Lib.hid hz1
    have HT := Lib.hid hT
    have HM := Lib.hid hM
    clear hz0 hz1 hT hM
    go_enter Tryz.func3, Tryz.ntmps3
    go_wp2_with fail
    refine (kl0 _).mono ?_
    rintro e w' ⟨rfl, rfl⟩
    go_wp2_with fail
    refine (kl1 _).mono ?_
    rintro e w' ⟨rfl, rfl⟩
    clear kl0 kl1
    go_wp2_with fail
    refine (spec_DrawSpeedWith a0 n0 c0 _ HZ0.out hlen.1).mono ?_
    rintro e wa ⟨p, k, r, f, rfl, hB⟩
    have bA : Below wa.heap.size wa (wa.alloc (Obj.cells #[.int .i64 p, .int .i64 k, .int .i64 r] 25)) := Below.alloc (Below.refl _ _) (Nat.le_refl _) _
    have R := Row3.made wa (.int .i64 p) (.int .i64 k) (.int .i64 r) 25
    replace hB := hB.trans (bA.mono hB.size)
    clear bA
    go_upto_region 4 with fail
    generalize wa.alloc (Obj.cells #[.int .i64 p, .int .i64 k, .int .i64 r] 25) = wb at *
    generalize wa.heap.size = X at *
    clear wa
    have HH : Held wb [(X, 0, .int .i64 p), (X, 1, .int .i64 k), (X, 2, .int .i64 r)] := (((Held.nil wb).cons R.lt R.c2).cons R.lt R.c1).cons R.lt R.c0
    clear R
    have q0 : wb.cell? ⟨X, 0, none⟩ = some (.int .i64 p) := HH.get 0 _ rfl
    have q1 : wb.cell? ⟨X, 1, none⟩ = some (.int .i64 k) := HH.get 1 _ rfl
    have q2 : wb.cell? ⟨X, 2, none⟩ = some (.int .i64 r) := HH.get 2 _ rfl
    go_wp2_with fail
    refine (impl_SpeedWith p k r f _).mono ?_
    rintro e wc ⟨rfl, hb⟩
    clear q0 q1 q2
    replace HH := HH.below hb
    replace hB := hB.trans (hb.mono hB.size)
    clear hb
    have FL := Lib.hid (fun h => @speed_law p k r f h)
    have hVB := speed_bd p k r f
    have kP := fun s W => impl_PowerNeeded p k r f s W
    generalize speedV' p k r f = V at *
    generalize speedC p k r f = C at *
    go_upto_if 50 with fail
    go_cut [] (fun W => Below w.heap.size w W)
    case first => as_aux_lemma =>
      by_cases hC : C = 0
      · subst hC
        obtain ⟨v0, e1, e2, e3, e4, e5, e6, e7⟩ := FL.out rfl
        have k1 := kP V
        have k2 := kP (V + 1)
        have k3 := kP (V.tdiv 2)
        rw [e1] at k1
        rw [e5] at k3
        have hdiv : V.tdiv 2 = V / 2 := Int.tdiv_eq_ediv_of_nonneg v0
        rw [hdiv] at k3 e5 e6 e7
        clear kP FL e1 e5 hdiv
        generalize needN p k r f V = a at *
        generalize needN p k r f (V + 1) = n3 at *
        generalize needC p k r f (V + 1) = c3 at *
        generalize needN p k r f (V / 2) = sl at *
        have d1 : decide (V < 0) = false := decide_eq_false (by omega)
        have d2 : decide (p < a) = false := decide_eq_false (by omega)
        have d3 : (c3 == 0) = false := beq_eq_false_iff_ne.2 e3
        have q0 : wc.cell? ⟨X, 0, none⟩ = some (.int .i64 p) := HH.get 0 _ rfl
        have q1 : wc.cell? ⟨X, 1, none⟩ = some (.int .i64 k) := HH.get 1 _ rfl
        have q2 : wc.cell? ⟨X, 2, none⟩ = some (.int .i64 r) := HH.get 2 _ rfl
        go_wp2_with fail
        refine (k1 _).mono ?_
        rintro e w1 ⟨rfl, hb⟩
        clear q0 q1 q2 k1
        replace HH := HH.below hb
        replace hB := hB.trans (hb.mono hB.size)
        clear hb
        have q0 : w1.cell? ⟨X, 0, none⟩ = some (.int .i64 p) := HH.get 0 _ rfl
        have q1 : w1.cell? ⟨X, 1, none⟩ = some (.int .i64 k) := HH.get 1 _ rfl
        have q2 : w1.cell? ⟨X, 2, none⟩ = some (.int .i64 r) := HH.get 2 _ rfl
        go_wp2_with fail
        refine (k2 _).mono ?_
        rintro e w2 ⟨rfl, hb⟩
        clear q0 q1 q2 k2
        replace HH := HH.below hb
        replace hB := hB.trans (hb.mono hB.size)
        clear hb
        go_upto_region 8 with fail
        go_cut [89] (fun u W => W = w2 ∧ u = .bool false)
        case first => as_aux_lemma =>
          have q0 : w2.cell? ⟨X, 0, none⟩ = some (.int .i64 p) := HH.get 0 _ rfl
          by_cases hV : V < 20000
          · have e8 := e4 hV
            subst e8
            go_wp2
            go_meet
            exact ⟨rfl, rfl⟩
          · have d4 : decide (V < 20000) = false := decide_eq_false hV
            go_wp2
            go_meet
            exact ⟨rfl, rfl⟩
        case rest => as_aux_lemma =>
          obtain ⟨rfl, rfl⟩ := hcut
          have q0 : wc.cell? ⟨X, 0, none⟩ = some (.int .i64 p) := HH.get 0 _ rfl
          have q1 : wc.cell? ⟨X, 1, none⟩ = some (.int .i64 k) := HH.get 1 _ rfl
          have q2 : wc.cell? ⟨X, 2, none⟩ = some (.int .i64 r) := HH.get 2 _ rfl
          go_wp2_with fail
          refine (k3 _).mono ?_
          rintro e w3 ⟨rfl, hb⟩
          clear q0 q1 q2 k3 d1 d2 d3 e2 e3 e4
          replace hB := hB.trans (hb.mono hB.size)
          clear hb HH
          go_upto_region 11 with fail
          go_cut [117] (fun u W => W = w3 ∧ u = .bool false)
          case first => as_aux_lemma =>
            by_cases h0 : f < 0
            · have e8 := e7 (by omega)
              have d4 : decide (0 ≤ f) = false := decide_eq_false (by omega)
              have d5 : decide (f ≤ 0) = true := decide_eq_true (by omega)
              have d6 : decide (sl < a) = false := decide_eq_false (by omega)
              clear e6 e7
              go_wp2
              go_meet
              exact ⟨rfl, rfl⟩
            · by_cases h1 : 0 < f
              · have e8 := e6 (by omega)
                have d4 : decide (0 ≤ f) = true := decide_eq_true (by omega)
                have d5 : decide (f ≤ 0) = false := decide_eq_false (by omega)
                have d6 : decide (a < sl) = false := decide_eq_false (by omega)
                clear e6 e7
                go_wp2
                go_meet
                exact ⟨rfl, rfl⟩
              · obtain rfl : f = 0 := by omega
                have e8 := e6 (by omega)
                have e9 := e7 (by omega)
                obtain rfl : sl = a := by omega
                clear e6 e7 e8 e9
                go_wp2
                go_meet
                exact ⟨rfl, rfl⟩
          case rest => as_aux_lemma =>
            obtain ⟨rfl, rfl⟩ := hcut
            go_wp2
            go_meet
            exact hB
      · have g0 : (C == 0) = false := by simpa using hC
        clear FL kP
        go_wp2_with fail
        go_meet
        exact hB
    case rest => as_aux_lemma =>
      clear FL kP HH hB hVB HZ0
      go_wp2_with fail
      refine (spec_DrawEnergyFor a1 n1 c1 _ (HZ1.out.below hcut) hlen.2).mono ?_
      rintro e wa ⟨p, k, r, aF, nF, cF, F, s, t, rfl, n61, hI, hb⟩
      have hB := hcut.trans (hb.mono hcut.size)
      clear hb hcut HZ1
      have bA : Below wa.heap.size wa (wa.alloc (Obj.cells #[.int .i64 p, .int .i64 k, .int .i64 r] 25)) := Below.alloc (Below.refl _ _) (Nat.le_refl _) _
      have R := Row3.made wa (.int .i64 p) (.int .i64 k) (.int .i64 r) 25
      replace hB := hB.trans (bA.mono hB.size)
      replace hI := hI.below bA
      clear bA
      go_upto_region 14 with fail
      generalize wa.alloc (Obj.cells #[.int .i64 p, .int .i64 k, .int .i64 r] 25) = wb at *
      generalize wa.heap.size = Y at *
      clear wa
      have HH : Held wb [(Y, 0, .int .i64 p), (Y, 1, .int .i64 k), (Y, 2, .int .i64 r)] := (((Held.nil wb).cons R.lt R.c2).cons R.lt R.c1).cons R.lt R.c0
      clear R
      have FL := Lib.hid (fun h => @energy_law p k r s t F nF h)
      have FN := Lib.hid (fun h => @en_no p k r s t F nF _ rfl h)
      have kE := fun W h => impl_EnergyFor p k r s t aF nF cF F W h (by omega)
      have kB := fun W h => impl_EnergyBack p k r s t aF nF cF F W h (by omega)
      generalize enP p k r s t F nF = EP at *
      generalize enN p k r s t F nF = EN at *
      generalize enC p k r s t F nF = EC at *
      have q0 : wb.cell? ⟨Y, 0, none⟩ = some (.int .i64 p) := HH.get 0 _ rfl
      have q1 : wb.cell? ⟨Y, 1, none⟩ = some (.int .i64 k) := HH.get 1 _ rfl
      have q2 : wb.cell? ⟨Y, 2, none⟩ = some (.int .i64 r) := HH.get 2 _ rfl
      go_wp2_with fail
      refine (kE _ hI).mono ?_
      rintro e w1 ⟨rfl, hb⟩
      clear q0 q1 q2 kE
      replace hI := hI.below hb
      replace HH := HH.below hb
      replace hB := hB.trans (hb.mono hB.size)
      clear hb
      have q0 : w1.cell? ⟨Y, 0, none⟩ = some (.int .i64 p) := HH.get 0 _ rfl
      have q1 : w1.cell? ⟨Y, 1, none⟩ = some (.int .i64 k) := HH.get 1 _ rfl
      have q2 : w1.cell? ⟨Y, 2, none⟩ = some (.int .i64 r) := HH.get 2 _ rfl
      go_wp2_with fail
      refine (kB _ hI).mono ?_
      rintro e w2 ⟨rfl, hb⟩
      clear q0 q1 q2 kB
      replace hI := hI.below hb
      replace HH := HH.below hb
      replace hB := hB.trans (hb.mono hB.size)
      clear hb
      by_cases hE : EC = 0
      · subst hE
        obtain ⟨hk, hf, hn, p0, m0, heq, hsb, t0, t1, p1, m1⟩ := FL.out rfl
        clear FL FN
        have HN := Lib.hid hn
        have HS := Lib.hid hsb
        have hsn := hsb nF (Nat.le_refl _)
        have HE := Lib.hid (And.intro heq (And.intro p0 (And.intro m0 (And.intro p1 m1))))
        have HK := Lib.hid hk
        have HF := Lib.hid hf
        clear hn hsb heq p0 m0 p1 m1 hk hf
        go_wp2_with fail
        go_loopw [23, 24] (fun q i wr => ∃ j : Nat, j ≤ nF ∧ i = .int .i64 (j : Int) ∧ q = .int .i64 (sumS r s F j) ∧ IntsAt wr aF nF F ∧ Held wr [(Y, 0, .int .i64 p), (Y, 1, .int .i64 k), (Y, 2, .int .i64 r)] ∧ Below w.heap.size w wr) (fun _ i _ => nF - (intOf i).toNat)
        case atStart => exact ⟨0, by omega, rfl, rfl, hI, HH, hB⟩
        case round => as_aux_lemma =>
          clear hI HH hB
          obtain ⟨j, hj, rfl, rfl, hI, HH, hB⟩ := hrel
          by_cases hlt : j < nF
          · obtain ⟨g1, g2⟩ := HN.out j hlt
            obtain ⟨h1, h2⟩ := HS.out j (by omega)
            obtain ⟨h3, h4⟩ := HS.out (j + 1) (by omega)
            have HX := Lib.hid (sumS_succ r s F j)
            rw [sumS_succ] at h3 h4
            have kn := fun W => spec_PowerNeeded p k r (F j) s W
            rw [g1, g2] at kn
            obtain ⟨b, o, ea, lb, hc⟩ := id hI (by omega)
            subst ea
            have cj := hc j hlt
            have j0 : (j : Int) < (nF : Int) := by omega
            have q0 : wr.cell? ⟨Y, 0, none⟩ = some (.int .i64 p) := HH.get 0 _ rfl
            have q1 : wr.cell? ⟨Y, 1, none⟩ = some (.int .i64 k) := HH.get 1 _ rfl
            have q2 : wr.cell? ⟨Y, 2, none⟩ = some (.int .i64 r) := HH.get 2 _ rfl
            have lY : Y < wr.heap.size := HH.lt 0 _ rfl
            clear hc g1 g2
            generalize sumS r s F j = S at *
            generalize powV r (F j) s = V2 at *
            generalize F j = fj at *
            go_wp2
            (refine wp_region_cls (by kernel_rfl) (by kernel_rfl) ?_; (repeat (go_big_quiet_step ((go_at_call 11; exact cls_B (kn _))))); refine wpQuiet_nil ?_; rintro _ ⟨u, rfl⟩; have hb := u.below; replace hB := hB.trans (hb.mono hB.size); generalize u.w = w' at *; obtain ⟨hc, hf, hs⟩ := bkeep hb; have hq' := hb.size; have hq := hB.size; have hb' := hb; clear hb)
            clear q0 q1 q2 cj lb lY hc hf hs hq' hq
            replace hI := hI.below hb'
            replace HH := HH.below hb'
            clear hb' kn
            go_wp2
            go_roundw
            case rel => exact ⟨j + 1, by omega, by go_num, by rw [HX.out], hI, HH, hB⟩
            case measure => simp [intOf]; omega
          · obtain rfl : j = nF := by omega
            have kh := fun W h => impl_HardestPull_ok p k r aF j cF F W h HK.out HF.out
            obtain ⟨n60, hfb⟩ := forces_at HF.out
            have q0 : wr.cell? ⟨Y, 0, none⟩ = some (.int .i64 p) := HH.get 0 _ rfl
            have q1 : wr.cell? ⟨Y, 1, none⟩ = some (.int .i64 k) := HH.get 1 _ rfl
            have q2 : wr.cell? ⟨Y, 2, none⟩ = some (.int .i64 r) := HH.get 2 _ rfl
            have HFB := Lib.hid hfb
            clear HN HS hfb
            go_wp2_with fail
            refine (kh _ hI).mono ?_
            rintro e w3 ⟨rfl, hb⟩
            clear q0 q1 q2 kh
            replace hI := hI.below hb
            replace HH := HH.below hb
            replace hB := hB.trans (hb.mono hB.size)
            clear hb
            generalize hAQ : (if j = 0 then (0 : Int) else absF (F (bestF F j))) = AQ at *
            generalize hCQ : (if j = 0 then (3 : Int) else 0) = CQ at *
            go_upto_region 29 with fail
            go_cut [208] (fun u W => W = w3 ∧ u = .bool false)
            case first => as_aux_lemma =>
              by_cases h0 : j = 0
              · rw [if_pos h0] at hAQ hCQ
                subst h0 hAQ hCQ
                have hr : bestF F 0 = 0 := rfl
                rw [hr]
                go_wp2
                go_meet
                exact ⟨rfl, rfl⟩
              · have hbl : bestF F j < j := by
                  rcases j with _ | j
                  · omega
                  · exact bestF_lt F j
                obtain ⟨b, o, ea, lb, hc⟩ := id hI (by omega)
                subst ea
                have cb := hc _ hbl
                obtain ⟨y1, y2⟩ := HFB.out _ hbl
                have ka := fun W => laws_b10Abs (F (bestF F j)) W (by omega) (by omega)
                rw [show absV (F (bestF F j)) = absF (F (bestF F j)) from rfl] at ka
                clear hc
                rw [if_neg h0] at hAQ hCQ
                subst hAQ hCQ
                generalize absF (F (bestF F j)) = AF at *
                generalize F (bestF F j) = fb at *
                generalize bestF F j = B at *
                have j0 : (0 : Int) < (j : Int) := by omega
                have j1 : (B : Int) < (j : Int) := by omega
                have d1 : decide ((B : Int) < 0) = false := decide_eq_false (by omega)
                have d2 : decide ((j : Int) ≤ (B : Int)) = false := decide_eq_false (by omega)
                go_wp2_with (go_at_call 13; (with_reducible refine (ka _).mono ?_); rintro e w' ⟨rfl, rfl⟩)
                go_meet
                exact ⟨rfl, rfl⟩
            case rest => as_aux_lemma =>
              obtain ⟨rfl, rfl⟩ := hcut
              have kt := fun W h => impl_MotorText p k r W h
              rw [show motorText p k r = listTx (mz p k r) 3 by unfold motorText; rw [if_pos HK.out]] at kt
              have kr := fun W h1 h2 => impl_ReadMotor (listTx (mz p k r) 3) p k r true W (motor_small HK.out) (Or.inl ⟨rfl, HK.out, rfl⟩) h1 h2
              generalize listTx (mz p k r) 3 = TX at *
              have q0 : wc.cell? ⟨Y, 0, none⟩ = some (.int .i64 p) := HH.get 0 _ rfl
              have q1 : wc.cell? ⟨Y, 1, none⟩ = some (.int .i64 k) := HH.get 1 _ rfl
              have q2 : wc.cell? ⟨Y, 2, none⟩ = some (.int .i64 r) := HH.get 2 _ rfl
              clear hI HF HFB
              go_wp2_with fail
              refine (kt _ (HT.out.below hB).pow).mono ?_
              rintro e w4 ⟨rfl, hb⟩
              clear q0 q1 q2 kt
              replace HH := HH.below hb
              replace hB := hB.trans (hb.mono hB.size)
              clear hb
              go_wp2_with fail
              refine (kr _ (HT.out.below hB) (HM.out.below hB)).mono ?_
              rintro e w5 ⟨rfl, hb⟩
              clear kr
              replace HH := HH.below hb
              replace hB := hB.trans (hb.mono hB.size)
              clear hb
              have bA : Below w5.heap.size w5 (w5.alloc (Obj.cells #[.int .i64 p, .int .i64 k, .int .i64 r] 25)) := Below.alloc (Below.refl _ _) (Nat.le_refl _) _
              have R := Row3.made w5 (.int .i64 p) (.int .i64 k) (.int .i64 r) 25
              replace hB := hB.trans (bA.mono hB.size)
              replace HH := HH.below bA
              clear bA
              go_upto_region 32 with fail
              generalize w5.alloc (Obj.cells #[.int .i64 p, .int .i64 k, .int .i64 r] 25) = w6 at *
              generalize w5.heap.size = Z at *
              have q0 : w6.cell? ⟨Y, 0, none⟩ = some (.int .i64 p) := HH.get 0 _ rfl
              have q1 : w6.cell? ⟨Y, 1, none⟩ = some (.int .i64 k) := HH.get 1 _ rfl
              have q2 : w6.cell? ⟨Y, 2, none⟩ = some (.int .i64 r) := HH.get 2 _ rfl
              have z0 := R.c0
              have z1 := R.c1
              have z2 := R.c2
              have kq := fun W => run_eq_Motor_same p k r W
              obtain ⟨heq, p0, m0, p1, m1⟩ := HE.out
              have d1 : decide (0 ≤ EP) = true := decide_eq_true p0
              have d2 : decide (0 ≤ EN) = true := decide_eq_true m0
              have heq2 : sumS r s F j * t = EP - EN := heq.symm
              have w1 : wrap64 (EP - EN) = EP - EN := by unfold wrap64; omega
              clear R HE HK heq
              generalize sumS r s F j = S at *
              go_wp2
              go_returns
              exact ⟨rfl, hB⟩
      · obtain ⟨rfl, rfl⟩ := FN.out hE
        have g0 : (EC == 0) = false := by simpa using hE
        clear FL FN
        go_wp2
        go_returns
        exact ⟨rfl, hB⟩
  · by_cases h0 : 1048576 < n0
    · rw [decide_eq_true (show (1048576 : Int) < (n0 : Int) by omega)] at kl0
      clear kl1
      go_enter Tryz.func3, Tryz.ntmps3
      go_wp2_with fail
      refine (kl0 _).mono ?_
      rintro e w' ⟨rfl, rfl⟩
      go_wp2_with fail
      go_returns
      exact ⟨rfl, Below.refl _ _⟩
    · rw [decide_eq_false (show ¬ (1048576 : Int) < (n0 : Int) by omega)] at kl0
      rw [decide_eq_true (show (1048576 : Int) < (n1 : Int) by omega)] at kl1
      go_enter Tryz.func3, Tryz.ntmps3
      go_wp2_with fail
      refine (kl0 _).mono ?_
      rintro e w' ⟨rfl, rfl⟩
      go_wp2_with fail
      refine (kl1 _).mono ?_
      rintro e w' ⟨rfl, rfl⟩
      go_wp2_with fail
      go_returns
      exact ⟨rfl, Below.refl _ _⟩

end Go.Proofs.YtejhngkbkcalaaaGreatDoor
