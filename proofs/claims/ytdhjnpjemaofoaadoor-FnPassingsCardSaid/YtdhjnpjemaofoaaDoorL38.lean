/-
  Walk of the law FnPassings.
-/
import Derived.Test.YtdhjnpjemaofoaaDoorDp
import Derived.Test.YtdhjnpjemaofoaaDoorDh
import Derived.Test.YtdhjnpjemaofoaaDoorPpa
import Derived.Test.YtdhjnpjemaofoaaDoorKY
import Derived.Test.YtdhjnpjemaofoaaDoorKJ
import Derived.Test.YtdhjnpjemaofoaaDoorKC2
import Derived.Test.YtdhjnpjemaofoaaDoorKB2
import Derived.Test.YtdhjnpjemaofoaaDoorKP
import Derived.Test.YtdhjnpjemaofoaaDoorKH
import Derived.Test.YtdhjnpjemaofoaaDoorTp
import Derived.Test.YtdhjnpjemaofoaaDoorRe
namespace Go.Proofs.YtdhjnpjemaofoaaDoor
open Go.RowKit
set_option linter.unusedVariables false
set_option linter.unusedSimpArgs false

/-- Cells that a walk holds. -/
def Held (W : World) (L : List (Nat × Nat × Value)) : Prop := ∀ x, x ∈ L → x.1 < W.heap.size ∧ W.cell? ⟨x.1, x.2.1, none⟩ = some x.2.2
theorem Held.below {W W' : World} {L : List (Nat × Nat × Value)} (h : Held W L) (k : Below W.heap.size W W') : Held W' L := fun x hx =>
  ⟨Nat.lt_of_lt_of_le (h x hx).1 k.size, (k.cell (p := ⟨x.1, x.2.1, none⟩) (h x hx).1).trans (h x hx).2⟩
theorem Held.get {W : World} {L : List (Nat × Nat × Value)} (h : Held W L) (i : Nat) (x : Nat × Nat × Value) (hx : L[i]? = some x) : W.cell? ⟨x.1, x.2.1, none⟩ = some x.2.2 :=
  (h x (List.mem_of_getElem? hx)).2
theorem Held.nil (W : World) : Held W [] := fun x hx => by cases hx
theorem Held.cons {W : World} {L : List (Nat × Nat × Value)} {b o : Nat} {v : Value} (h : Held W L) (hb : b < W.heap.size) (hc : W.cell? ⟨b, o, none⟩ = some v) : Held W ((b, o, v) :: L) := fun x hx => by
  rcases List.mem_cons.1 hx with rfl | hx
  · exact ⟨hb, hc⟩
  · exact h x hx
theorem pass_small {i j : Int} (h : passingOk i j = true) : (passingTx i j).size ≤ 1048576 := by
  have hb := passing_bd h
  have a := dtx_size (n := i) (by omega) (by omega)
  have b := dtx_size (n := j) (by omega) (by omega)
  have c : (⟨#[64]⟩ : ByteArray).size = 1 := rfl
  unfold passingTx
  simp only [ByteArray.size_append]
  omega

theorem run_neq_Pass_same (x0 x1 : Int) (W : World) :
    (binOp .neq 53 (.agg #[.int .i64 x0, .int .i64 x1]) (.agg #[.int .i64 x0, .int .i64 x1])).run Tryd.prog W = .ok (.bool false) W := by
  rw [run_neq_struct]
  generalize hd : 10000 = D
  obtain ⟨d, rfl⟩ : ∃ d, D = d + 1 + 1 := ⟨9998, by omega⟩
  rw [run_equalIn_agg (d := d + 1) (ht := by kernel_rfl) (hp := by kernel_rfl)]
  simp only [Program.fieldsOf, Tryd.underlying53]
  clear hd
  have u2 := Tryd.underlying2
  go_simp

set_option maxHeartbeats 16000000 in
set_option maxRecDepth 100000 in
theorem law_FnPassings (a0 : Option Addr) (n0 c0 : Nat) (a1 : Option Addr) (n1 c1 : Nat) (w : World) (hz0 : BytesAt w a0 n0) (hz1 : BytesAt w a1 n1) (hT : Tabs w) (hM : MaxAt w) :
    Calls Tryd.prog 4 #[.slice a0 n0 c0, .slice a1 n1 c1] w fun e w' => e = .returned (.bool true) ∧ Below w.heap.size w w' := by
  have kl0 := fun W => laws_b10Long a0 n0 c0 W
  have kl1 := fun W => laws_b10Long a1 n1 c1 W
  by_cases hlen : n0 ≤ 1048576 ∧ n1 ≤ 1048576
  · rw [decide_eq_false (show ¬ (1048576 : Int) < (n0 : Int) by omega)] at kl0
    rw [decide_eq_false (show ¬ (1048576 : Int) < (n1 : Int) by omega)] at kl1
    have HZ0 := Lib.hid hz0
    have HZ1 := Lib.hid hz1
    have HT := Lib.hid hT
    have HM := Lib.hid hM
    clear hz0 hz1 hT hM
    go_enter Tryd.func4, Tryd.ntmps4
    go_wp2_with fail
    refine (kl0 _).mono ?_
    rintro e w' ⟨rfl, rfl⟩
    go_wp2_with fail
    refine (kl1 _).mono ?_
    rintro e w' ⟨rfl, rfl⟩
    clear kl0 kl1
    go_wp2_with fail
    refine (spec_DrawSpeedsBetween a0 n0 c0 _ HZ0.out hlen.1).mono ?_
    rintro e wa ⟨v, u, rfl, ⟨aZ, nZ, cZ, Z, rfl, n17, hz⟩, ⟨aP, m, cP, S, T, rfl, m10, hy⟩, hba⟩
    go_wp2_with fail
    refine (impl_SpeedsBetween aZ nZ cZ Z aP m cP S T _ hz hy (by omega) (by omega)).mono ?_
    rintro e wb ⟨aS, cS, rfl, oS, hbb⟩
    have hz2 := hz.below hbb
    have hy2 := hy.below hbb
    have hB2 := hba.trans (hbb.mono hba.size)
    have hS2 := oS.ints
    clear hz hy hba hbb oS
    go_wp2_with fail
    refine (impl_MissedSwitches aZ nZ cZ Z aP m cP S T _ hz2 hy2 (by omega) (by omega)).mono ?_
    rintro e wc ⟨aM, cM, rfl, oM, hbc⟩
    have hz3 := hz2.below hbc
    have hy3 := hy2.below hbc
    have hS3 := hS2.below hbc
    have hB3 := hB2.trans (hbc.mono hB2.size)
    have hM3 := oM.ints
    clear hz2 hy2 hS2 hB2 hbc oM
    go_wp2_with fail
    refine (impl_TurnsOf aZ nZ cZ Z aP m cP S T _ hz3 hy3 (by omega) (by omega)).mono ?_
    rintro e wd ⟨aT, cT, rfl, oT, hbd⟩
    have hz := hz3.below hbd
    have hy := hy3.below hbd
    have hS := hS3.below hbd
    have hM := hM3.below hbd
    have hB := hB3.trans (hbd.mono hB3.size)
    have hTu := oT.ints
    clear hz3 hy3 hS3 hM3 hB3 hbd oT
    generalize hok : passOk Z nZ S T m = K at *
    generalize hC : okC K 1 = C at *
    generalize hLS : okL K (speedsA Z S T (m - 1)) = LS at *
    generalize hLM : okL K (missA S nZ m) = LM at *
    generalize hLT : okL K (turnsA S (m - 2)) = LT at *
    generalize hnS : LS.length = nS at *
    generalize hnM : LM.length = nM at *
    generalize hnT : LT.length = nT at *
    have hnM2 : nM ≤ 17 := by
      rw [← hnM, ← hLM]
      exact okL_len (Nat.le_trans (missA_len S nZ m) n17)
    have hnT2 : nT ≤ 10 := by
      rw [← hnT, ← hLT]
      exact okL_len (Nat.le_trans (turnsA_len S (m - 2)) (by omega))
    go_upto_if 69 with fail
    go_cut [] (fun W => Below w.heap.size w W)
    case first => as_aux_lemma =>
      cases K
      · obtain rfl : nS = 0 := by rw [← hnS, ← hLS]; rfl
        obtain rfl : nM = 0 := by rw [← hnM, ← hLM]; rfl
        obtain rfl : nT = 0 := by rw [← hnT, ← hLT]; rfl
        obtain rfl : C = 1 := hC.symm
        clear hok hLS hLM hLT hC
        go_wp2_with fail
        go_meet
        exact hB
      · obtain rfl : C = 0 := hC.symm
        rw [okL_yes] at hLS hLM hLT
        subst hLS hLM hLT
        rw [speedsA_len] at hnS
        have FS := Lib.hid (fun (j : Nat) (h : j < m - 1) => speedsA_at (Z := Z) (S := S) (T := T) h)
        have FM := Lib.hid (missed_rise (S := S) (n := nZ) (m := m))
        have FT := Lib.hid (turns_rise (S := S) (m := m))
        have FH := Lib.hid (fun (k : Nat) (x : Int) h1 h2 h3 h4 h5 => missed_has (S := S) (n := nZ) (m := m) (k := k) (x := x) h1 h2 h3 h4 h5)
        have FP := Lib.hid (fun (i : Nat) h => place_pass (i := i) hok h)
        have FW := Lib.hid (fun (i : Nat) h => switch_pass (i := i) hok h)
        have FG := Lib.hid (fun (k : Nat) h => span_pass (k := k) hok h)
        have FO := Lib.hid (passOk_parts hok)
        have hS' : IntsAt wd aS nS (spdV Z S T) := fun h => by
          obtain ⟨b, o, e, hb, hc⟩ := hS h
          exact ⟨b, o, e, hb, fun j hj => by rw [hc j hj]; dsimp only; rw [FS.out j (by omega)]⟩
        have kv1 := fun W h1 h2 => impl_ValidPassings aZ nZ cZ Z aP m cP S T W h1 h2 (by omega) (by omega)
        have kv2 := fun W h1 h2 => spec_ValidPassings aZ nZ cZ Z aP m cP S T W h1 h2 (by omega) (by omega)
        rw [hok] at kv1 kv2
        have kr1 := fun W h => laws_b10Rises aM nM cM (fun j => (missA S nZ m).getD j 0) nZ W h (by omega) (by omega) (by have := FM.out; rw [hnM] at this; exact this)
        have kr2 := fun W h => laws_b10Rises aT nT cT (fun j => (turnsA S (m - 2)).getD j 0) m W h (by omega) (by omega) (by have := FT.out; rw [hnT] at this; exact this)
        have FK := Lib.hid (fun (x : Int) W h => laws_b10Has aM nM cM (fun j => (missA S nZ m).getD j 0) x W h (by omega))
        rw [hnM] at FH
        clear hS FS FM FT hC hnM hnT hok
        go_upto_region 10 with fail
        generalize missA S nZ m = MA at *
        generalize turnsA S (m - 2) = TA at *
        go_cut [102] (fun b W => b = .bool false ∧ Below wd.heap.size wd W)
        case first => as_aux_lemma =>
          clear FP FW FG FO FH FK hB hS' HZ1 HT HM
          have hnS2 : max (0 : Int) ((m : Int) - 1) = (nS : Int) := by omega
          have hw : wrap64 ((m : Int) - 1) = (m : Int) - 1 := by unfold wrap64; omega
          go_wp2_with fail
          refine (kv1 _ hz hy).mono ?_
          rintro e w1 ⟨rfl, hb1⟩
          have hz1 := hz.below hb1
          have hy1 := hy.below hb1
          have hM1 := hM.below hb1
          have hTu1 := hTu.below hb1
          have hW1 := hb1
          clear hb1
          go_wp2_with fail
          refine (kv2 _ hz1 hy1).mono ?_
          rintro e w2 ⟨rfl, hb2⟩
          have hM2 := hM1.below hb2
          have hTu2 := hTu1.below hb2
          have hW2 := hW1.trans (hb2.mono hW1.size)
          clear hb2
          go_wp2_with fail
          refine (kr1 _ hM2).mono ?_
          rintro e w3 ⟨rfl, hb3⟩
          have hTu3 := hTu2.below hb3
          have hW3 := hW2.trans (hb3.mono hW2.size)
          clear hb3 hM2 hTu2 hW2
          go_wp2_with fail
          refine (kr2 _ hTu3).mono ?_
          rintro e w4 ⟨rfl, hb4⟩
          have hW4 := hW3.trans (hb4.mono hW3.size)
          clear hb4 hTu3 hW3
          go_wp2_with fail
          go_meet
          exact ⟨rfl, hW4⟩
        case rest => as_aux_lemma =>
          obtain ⟨rfl, hbW⟩ := hcut
          replace hz := hz.below hbW
          replace hy := hy.below hbW
          replace hM := hM.below hbW
          replace hS' := hS'.below hbW
          replace hB := hB.trans (hbW.mono hB.size)
          clear hbW hTu kv1 kv2 kr1 kr2
          have s0 := hB.size
          go_wp2_with fail
          go_loopw [13] (fun i wr => ∃ k : Nat, k ≤ m ∧ i = .int .i64 (k : Int) ∧ IntsAt wr aZ nZ Z ∧ PassAt wr aP m S T ∧ IntsAt wr aM nM (fun j => MA.getD j 0) ∧ IntsAt wr aS nS (spdV Z S T) ∧ Below w.heap.size w wr) (fun i _ => m - (intOf i).toNat)
          case atStart => exact ⟨0, by omega, rfl, hz, hy, hM, hS', hB⟩
          case round => as_aux_lemma =>
            clear hz hy hM hS' hB s0
            obtain ⟨k, hk, rfl, hz, hy, hM, hS, hB⟩ := hrel
            by_cases hlt : k < m
            · obtain ⟨p1, p2⟩ := FP.out k hlt
              obtain ⟨q1, q2⟩ := FW.out k hlt
              obtain ⟨hri, h16, hgd, h32⟩ := FO.out
              obtain ⟨g1, g2, g3, g4⟩ := goodP_at hgd hlt
              have kp := fun W h1 h2 => impl_PlaceAtSecond aZ nZ cZ Z aP m cP S T (T k) W h1 h2 (by omega) (by omega)
              rw [p1, p2] at kp
              have kn := fun W h1 => impl_NearestSwitch aZ nZ cZ Z (Z (S k).toNat) W h1 (by omega)
              rw [q1, q2] at kn
              have hpo : passingOk (S k) (T k) = true := by unfold passingOk; rw [Bool.and_eq_true, inB_true, inB_true]; omega
              have kt := fun W h => impl_PassingText (S k) (T k) W h
              rw [show passingText (S k) (T k) = passingTx (S k) (T k) by unfold passingText; rw [if_pos hpo]] at kt
              have kr := fun W h1 h2 => impl_ReadPassing (passingTx (S k) (T k)) (S k) (T k) true W (pass_small hpo) (Or.inl ⟨rfl, hpo, rfl⟩) h1 h2
              have kQ := fun W => run_neq_Pass_same (S k) (T k) W
              generalize passingTx (S k) (T k) = Tx at *
              clear p1 p2 q1 q2 hpo FP FW
              obtain ⟨bp, op, e1, hbp, hcp⟩ := id hy (by omega)
              obtain ⟨bz, oz, e2, hbz, hcz⟩ := id hz (by omega)
              subst e1 e2
              obtain ⟨cS, cT⟩ := hcp k hlt
              have cZ1 := hcz (S k).toNat (by omega)
              clear hcp hcz
              have HH : Held wr [(bp, op + k * 2, .int .i64 (S k)), (bp, op + k * 2 + 1, .int .i64 (T k)), (bz, oz + (S k).toNat, .int .i64 (Z (S k).toNat))] :=
                (((Held.nil wr).cons hbz cZ1).cons hbp cT).cons hbp cS
              clear cS cT cZ1
              generalize hs1 : S k = s1 at *
              generalize ht1 : T k = t1 at *
              generalize hz1 : Z s1.toNat = z1 at *
              have k0 : (k : Int) < (m : Int) := by omega
              have HA := Lib.hid hs1
              have HB := Lib.hid ht1
              have HC := Lib.hid hz1
              clear hs1 ht1 hz1
              have cS1 : wr.cell? ⟨bp, op + k * 2, none⟩ = some (.int .i64 s1) := HH.get 0 _ rfl
              have cT1 : wr.cell? ⟨bp, op + k * 2 + 1, none⟩ = some (.int .i64 t1) := HH.get 1 _ rfl
              have cZ1 : wr.cell? ⟨bz, oz + s1.toNat, none⟩ = some (.int .i64 z1) := HH.get 2 _ rfl
              go_wp2_with fail
              refine (kp _ hz hy).mono ?_
              rintro e v1 ⟨rfl, hb⟩
              clear cS1 cT1 cZ1
              replace hz := hz.below hb
              replace hy := hy.below hb
              replace hM := hM.below hb
              replace hS := hS.below hb
              replace HH := HH.below hb
              replace hB := hB.trans (hb.mono hB.size)
              clear hb
              have cS1 : v1.cell? ⟨bp, op + k * 2, none⟩ = some (.int .i64 s1) := HH.get 0 _ rfl
              have cT1 : v1.cell? ⟨bp, op + k * 2 + 1, none⟩ = some (.int .i64 t1) := HH.get 1 _ rfl
              have cZ1 : v1.cell? ⟨bz, oz + s1.toNat, none⟩ = some (.int .i64 z1) := HH.get 2 _ rfl
              clear kp
              go_wp2_with fail
              refine (kn _ hz).mono ?_
              rintro e v2 ⟨rfl, hb⟩
              clear cS1 cT1 cZ1
              replace hz := hz.below hb
              replace hy := hy.below hb
              replace hM := hM.below hb
              replace hS := hS.below hb
              replace HH := HH.below hb
              replace hB := hB.trans (hb.mono hB.size)
              clear hb
              have cS1 : v2.cell? ⟨bp, op + k * 2, none⟩ = some (.int .i64 s1) := HH.get 0 _ rfl
              have cT1 : v2.cell? ⟨bp, op + k * 2 + 1, none⟩ = some (.int .i64 t1) := HH.get 1 _ rfl
              have cZ1 : v2.cell? ⟨bz, oz + s1.toNat, none⟩ = some (.int .i64 z1) := HH.get 2 _ rfl
              clear kn
              go_wp2_with fail
              refine (kt _ (HT.out.below hB).pow).mono ?_
              rintro e v3 ⟨rfl, hb⟩
              clear cS1 cT1 cZ1
              replace hz := hz.below hb
              replace hy := hy.below hb
              replace hM := hM.below hb
              replace hS := hS.below hb
              replace HH := HH.below hb
              replace hB := hB.trans (hb.mono hB.size)
              clear hb
              have cS1 : v3.cell? ⟨bp, op + k * 2, none⟩ = some (.int .i64 s1) := HH.get 0 _ rfl
              have cT1 : v3.cell? ⟨bp, op + k * 2 + 1, none⟩ = some (.int .i64 t1) := HH.get 1 _ rfl
              have cZ1 : v3.cell? ⟨bz, oz + s1.toNat, none⟩ = some (.int .i64 z1) := HH.get 2 _ rfl
              clear kt
              go_wp2_with fail
              refine (kr _ (HT.out.below hB) (HM.out.below hB)).mono ?_
              rintro e v4 ⟨rfl, hb⟩
              clear cS1 cT1 cZ1
              replace hz := hz.below hb
              replace hy := hy.below hb
              replace hM := hM.below hb
              replace hS := hS.below hb
              replace HH := HH.below hb
              replace hB := hB.trans (hb.mono hB.size)
              clear hb
              have cS1 : v4.cell? ⟨bp, op + k * 2, none⟩ = some (.int .i64 s1) := HH.get 0 _ rfl
              have cT1 : v4.cell? ⟨bp, op + k * 2 + 1, none⟩ = some (.int .i64 t1) := HH.get 1 _ rfl
              have cZ1 : v4.cell? ⟨bz, oz + s1.toNat, none⟩ = some (.int .i64 z1) := HH.get 2 _ rfl
              clear kr
              have bA : Below v4.heap.size v4 (v4.alloc (Obj.cells #[.int .i64 s1, .int .i64 t1] 53)) := Below.alloc (Below.refl _ _) (Nat.le_refl _) _
              have X0 : (v4.alloc (Obj.cells #[.int .i64 s1, .int .i64 t1] 53)).cell? ⟨v4.heap.size, 0, none⟩ = some (.int .i64 s1) := by go_cell
              have X1 : (v4.alloc (Obj.cells #[.int .i64 s1, .int .i64 t1] 53)).cell? ⟨v4.heap.size, 1, none⟩ = some (.int .i64 t1) := by go_cell
              have lX : v4.heap.size < (v4.alloc (Obj.cells #[.int .i64 s1, .int .i64 t1] 53)).heap.size := by simp
              go_upto_region 18 with fail
              clear cS1 cT1 cZ1
              replace hz := hz.below bA
              replace hy := hy.below bA
              replace hM := hM.below bA
              replace hS := hS.below bA
              replace HH := HH.below bA
              replace hB := hB.trans (bA.mono hB.size)
              clear bA
              generalize v4.alloc (Obj.cells #[.int .i64 s1, .int .i64 t1] 53) = v5 at *
              generalize v4.heap.size = X at *
              have cS1 : v5.cell? ⟨bp, op + k * 2, none⟩ = some (.int .i64 s1) := HH.get 0 _ rfl
              have cT1 : v5.cell? ⟨bp, op + k * 2 + 1, none⟩ = some (.int .i64 t1) := HH.get 1 _ rfl
              have cZ1 : v5.cell? ⟨bz, oz + s1.toNat, none⟩ = some (.int .i64 z1) := HH.get 2 _ rfl
              have lb1 : bp < v5.heap.size := (HH _ (List.mem_cons_self)).1
              have lb2 : bz < v5.heap.size := (HH (bz, oz + s1.toNat, .int .i64 z1) (by simp)).1
              (refine wp_region_cls (by kernel_rfl) (by kernel_rfl) ?_; (repeat (go_big_quiet_step (fail))); refine wpQuiet_nil ?_; rintro _ ⟨u, rfl⟩; have hb := u.below; replace hB := hB.trans (hb.mono hB.size); generalize u.w = w' at *; obtain ⟨hc, hf, hs⟩ := bkeep hb; have hq' := hb.size; have hq := hB.size; have hb' := hb; clear hb)
              clear cS1 cT1 cZ1 X0 X1 hc hf hs hq' kQ lb1 lb2 lX
              replace hz := hz.below hb'
              replace hy := hy.below hb'
              replace hM := hM.below hb'
              replace hS := hS.below hb'
              replace HH := HH.below hb'
              clear hb'
              by_cases hk0 : k = 0
              · have kk : ((k : Int) == 0) = true := by simp; omega
                clear hk0
                go_wp2
                go_roundw
                case rel => exact ⟨k + 1, by omega, by go_num, hz, hy, hM, hS, hB⟩
                case measure => simp [intOf]; omega
              · have kk : ((k : Int) == 0) = false := by simp; omega
                obtain ⟨q, hq1⟩ : ∃ q, q + 1 = k := ⟨k - 1, by omega⟩
                have G := FG.out q (by omega)
                obtain ⟨f1, f2, f3, f4⟩ := goodP_at hgd (show q < m by omega)
                have hne := (goodP_next hgd (show q + 1 < m by omega)).2
                rw [hq1] at G hne
                rw [HA.out, HB.out, HC.out] at G
                rw [HA.out] at hne
                obtain ⟨bs, os, e3, hbs, hcs⟩ := id hS (by omega)
                subst e3
                obtain ⟨bz', oz', e4, _, hcz⟩ := id hz (by omega)
                obtain ⟨bp', op', e5, _, hcp⟩ := id hy (by omega)
                injection e4 with e4
                injection e4 with e41 e42
                injection e5 with e5
                injection e5 with e51 e52
                subst e41 e42 e51 e52
                obtain ⟨cS0, cT0⟩ := hcp q (by omega)
                have cZ0 := hcz (S q).toNat (by omega)
                have cSp := hcs q (by omega)
                have HH2 : Held w' [(bp, op + q * 2, .int .i64 (S q)), (bp, op + q * 2 + 1, .int .i64 (T q)), (bz, oz + (S q).toNat, .int .i64 (Z (S q).toNat)), (bs, os + q, .int .i64 (spdV Z S T q))] := by
                  have l1 := (HH _ (List.mem_cons_self)).1
                  have l2 := (HH (bz, oz + s1.toNat, .int .i64 z1) (by simp)).1
                  exact ((((Held.nil w').cons hbs cSp).cons l2 cZ0).cons l1 cT0).cons l1 cS0
                clear cS0 cT0 cZ0 cSp hcs hcz hcp hbs
                have FKH := Lib.hid (fun (x : Int) (h1 : min (S q) (S (q + 1)) < x) (h2 : x < max (S q) (S (q + 1))) (h3 : 0 ≤ x) (h4 : x < nZ) => FH.out q x (by omega) h1 h2 h3 h4)
                rw [hq1, HA.out] at FKH
                clear FH FG FO hgd hri
                generalize S q = s0 at *
                generalize T q = t0 at *
                generalize Z s0.toNat = z0 at *
                generalize spdV Z S T q = sp at *
                have ka := fun W => laws_b10Abs (z1 - z0) W (by omega) (by omega)
                have hw0 := absV_bd (x := z1 - z0) (a := 4000000) (by omega) (by omega)
                generalize absV (z1 - z0) = way at *
                obtain ⟨G1, G2, G3, G4, G5, G6, G7, G8⟩ := G
                have e5 : wrap64 ((k : Int) - 1) = (q : Int) := by unfold wrap64; omega
                have e6 : (k : Int) - 1 = (q : Int) := by omega
                have e7 : (q : Int) < (m : Int) := by omega
                have e8 : (q : Int) < (nS : Int) := by omega
                go_upto_region 21 with fail
                have cS1 : w'.cell? ⟨bp, op + k * 2, none⟩ = some (.int .i64 s1) := HH.get 0 _ rfl
                have cT1 : w'.cell? ⟨bp, op + k * 2 + 1, none⟩ = some (.int .i64 t1) := HH.get 1 _ rfl
                have cZ1 : w'.cell? ⟨bz, oz + s1.toNat, none⟩ = some (.int .i64 z1) := HH.get 2 _ rfl
                have cS0 : w'.cell? ⟨bp, op + q * 2, none⟩ = some (.int .i64 s0) := HH2.get 0 _ rfl
                have cT0 : w'.cell? ⟨bp, op + q * 2 + 1, none⟩ = some (.int .i64 t0) := HH2.get 1 _ rfl
                have cZ0 : w'.cell? ⟨bz, oz + s0.toNat, none⟩ = some (.int .i64 z0) := HH2.get 2 _ rfl
                have cSp : w'.cell? ⟨bs, os + q, none⟩ = some (.int .i64 sp) := HH2.get 3 _ rfl
                have lb1 : bp < w'.heap.size := (HH _ (List.mem_cons_self)).1
                have lb2 : bz < w'.heap.size := (HH (bz, oz + s1.toNat, .int .i64 z1) (by simp)).1
                (refine wp_region_cls (by kernel_rfl) (by kernel_rfl) ?_; (repeat (go_big_quiet_step ((go_at_call 29; with_reducible exact cls_S (ka _))))); refine wpQuiet_nil ?_; rintro _ ⟨u, rfl⟩; have hb := u.below; replace hB := hB.trans (hb.mono hB.size); generalize u.w = w' at *; obtain ⟨hc, hf, hs⟩ := bkeep hb; have hq' := hb.size; have hq := hB.size; have hb' := hb; clear hb)
                clear cS1 cT1 cZ1 cS0 cT0 cZ0 cSp lb1 lb2 hc hf hs hq'
                replace hz := hz.below hb'
                replace hy := hy.below hb'
                replace hM := hM.below hb'
                replace hS := hS.below hb'
                replace HH := HH.below hb'
                replace HH2 := HH2.below hb'
                clear hb'
                go_upto_region 22 with fail
                rename_i wq
                have cS1 : w'.cell? ⟨bp, op + k * 2, none⟩ = some (.int .i64 s1) := HH.get 0 _ rfl
                have cT1 : w'.cell? ⟨bp, op + k * 2 + 1, none⟩ = some (.int .i64 t1) := HH.get 1 _ rfl
                have cZ1 : w'.cell? ⟨bz, oz + s1.toNat, none⟩ = some (.int .i64 z1) := HH.get 2 _ rfl
                have cS0 : w'.cell? ⟨bp, op + q * 2, none⟩ = some (.int .i64 s0) := HH2.get 0 _ rfl
                have cT0 : w'.cell? ⟨bp, op + q * 2 + 1, none⟩ = some (.int .i64 t0) := HH2.get 1 _ rfl
                have cZ0 : w'.cell? ⟨bz, oz + s0.toNat, none⟩ = some (.int .i64 z0) := HH2.get 2 _ rfl
                have cSp : w'.cell? ⟨bs, os + q, none⟩ = some (.int .i64 sp) := HH2.get 3 _ rfl
                have lb1 : bp < w'.heap.size := (HH _ (List.mem_cons_self)).1
                have lb2 : bz < w'.heap.size := (HH (bz, oz + s1.toNat, .int .i64 z1) (by simp)).1
                (refine wp_region_cls (by kernel_rfl) (by kernel_rfl) ?_; (repeat (go_big_quiet_step (fail))); refine wpQuiet_nil ?_; rintro _ ⟨u, rfl⟩; have hb := u.below; replace hB := hB.trans (hb.mono hB.size); generalize u.w = w' at *; obtain ⟨hc, hf, hs⟩ := bkeep hb; have hq' := hb.size; have hq := hB.size; have hb' := hb; clear hb)
                clear cS1 cT1 cZ1 cS0 cT0 cZ0 cSp lb1 lb2 hc hf hs hq'
                replace hz := hz.below hb'
                replace hy := hy.below hb'
                replace hM := hM.below hb'
                replace hS := hS.below hb'
                replace HH := HH.below hb'
                replace HH2 := HH2.below hb'
                clear hb'
                have e9 : wrap64 (t1 - t0) = t1 - t0 := by unfold wrap64; omega
                generalize t1 - t0 = dt at *
                generalize hmu : sp * dt = mu at *
                have m1 : wrap64 mu = mu := by unfold wrap64; omega
                have m2 : wrap64 (mu - way) = mu - way := by unfold wrap64; omega
                have kb := fun W => laws_b10Abs (mu - way) W (by omega) (by omega)
                have hq2 : 0 ≤ absV (mu - way) ∧ 2 * absV (mu - way) ≤ dt := by unfold absV; split <;> omega
                generalize absV (mu - way) = AA at *
                have m3 : wrap64 (2 * AA) = 2 * AA := by unfold wrap64; omega
                have m4 : ¬ dt < 2 * AA := by omega
                have cS1 : w'.cell? ⟨bp, op + k * 2, none⟩ = some (.int .i64 s1) := HH.get 0 _ rfl
                have cT1 : w'.cell? ⟨bp, op + k * 2 + 1, none⟩ = some (.int .i64 t1) := HH.get 1 _ rfl
                have cZ1 : w'.cell? ⟨bz, oz + s1.toNat, none⟩ = some (.int .i64 z1) := HH.get 2 _ rfl
                have cS0 : w'.cell? ⟨bp, op + q * 2, none⟩ = some (.int .i64 s0) := HH2.get 0 _ rfl
                have cT0 : w'.cell? ⟨bp, op + q * 2 + 1, none⟩ = some (.int .i64 t0) := HH2.get 1 _ rfl
                have cZ0 : w'.cell? ⟨bz, oz + s0.toNat, none⟩ = some (.int .i64 z0) := HH2.get 2 _ rfl
                have cSp : w'.cell? ⟨bs, os + q, none⟩ = some (.int .i64 sp) := HH2.get 3 _ rfl
                have lb1 : bp < w'.heap.size := (HH _ (List.mem_cons_self)).1
                have lb2 : bz < w'.heap.size := (HH (bz, oz + s1.toNat, .int .i64 z1) (by simp)).1
                go_wp2_with fail
                refine (kb _).mono ?_
                rintro e w'' ⟨rfl, rfl⟩
                go_upto_region 25 with fail
                clear cS1 cT1 cZ1 cS0 cT0 cZ0 cSp lb1 lb2 kb ka
                obtain ⟨mid, hmid⟩ : ∃ mid : Int, mid = (s1 + s0) / 2 := ⟨_, rfl⟩
                have r1 : wrap64 (s1 + s0) = s1 + s0 := by unfold wrap64; omega
                have r2 : (s1 + s0).tdiv 2 = mid := by rw [Int.tdiv_eq_ediv_of_nonneg (by omega)]; exact hmid.symm
                have r3 : (s1 + s0) / 2 = mid := hmid.symm
                have r4 : 0 ≤ mid ∧ mid < nZ ∧ (mid ≠ s1 → mid ≠ s0 → min s0 s1 < mid ∧ mid < max s0 s1) := by omega
                have r5 : 0 ≤ s1 + s0 := by omega
                have cS1 : w'.cell? ⟨bp, op + k * 2, none⟩ = some (.int .i64 s1) := HH.get 0 _ rfl
                have cS0 : w'.cell? ⟨bp, op + q * 2, none⟩ = some (.int .i64 s0) := HH2.get 0 _ rfl
                have lb1 : bp < w'.heap.size := (HH _ (List.mem_cons_self)).1
                clear hmid
                (refine wp_region_cls (by kernel_rfl) (by kernel_rfl) ?_; (repeat (go_big_quiet_step (fail))); refine wpQuiet_nil ?_; rintro _ ⟨u, rfl⟩; have hb := u.below; replace hB := hB.trans (hb.mono hB.size); generalize u.w = w' at *; obtain ⟨hc, hf, hs⟩ := bkeep hb; have hq' := hb.size; have hq := hB.size; have hb' := hb; clear hb)
                clear cS1 cS0 lb1 hc hf hs hq'
                replace hz := hz.below hb'
                replace hy := hy.below hb'
                replace hM := hM.below hb'
                replace hS := hS.below hb'
                replace HH := HH.below hb'
                replace HH2 := HH2.below hb'
                clear hb' r2 r3
                have cS1 : w'.cell? ⟨bp, op + k * 2, none⟩ = some (.int .i64 s1) := HH.get 0 _ rfl
                have cS0 : w'.cell? ⟨bp, op + q * 2, none⟩ = some (.int .i64 s0) := HH2.get 0 _ rfl
                have lb1 : bp < w'.heap.size := (HH _ (List.mem_cons_self)).1
                by_cases x1 : mid = s1
                · subst x1
                  go_wp2_with fail
                  go_roundw
                  case rel => exact ⟨k + 1, by omega, by go_num, hz, hy, hM, hS, hB⟩
                  case measure => simp [intOf]; omega
                · have y1 : (mid == s1) = false := by simpa using x1
                  by_cases x2 : mid = s0
                  · subst x2
                    go_wp2_with fail
                    go_roundw
                    case rel => exact ⟨k + 1, by omega, by go_num, hz, hy, hM, hS, hB⟩
                    case measure => simp [intOf]; omega
                  · have y2 : (mid == s0) = false := by simpa using x2
                    have kh := fun W h => FK.out mid W h
                    rw [FKH.out mid (r4.2.2 x1 x2).1 (r4.2.2 x1 x2).2 r4.1 r4.2.1] at kh
                    go_wp2_with fail
                    refine (kh _ hM).mono ?_
                    rintro e w'' ⟨rfl, rfl⟩
                    go_wp2_with fail
                    go_roundw
                    case rel => exact ⟨k + 1, by omega, by go_num, hz, hy, hM, hS, hB⟩
                    case measure => simp [intOf]; omega
            · obtain rfl : k = m := by omega
              go_wp2_with fail
              go_meet
              exact hB
    case rest => as_aux_lemma =>
      clear hok hC hLS hLM hLT hnS hnM hnT hnM2 hnT2 hz hy hS hM hTu hB HZ0 HT HM
      clear Z S T n17 m10
      go_wp2_with fail
      refine (spec_DrawTooFast a1 n1 c1 _ (HZ1.out.below hcut) hlen.2).mono ?_
      rintro e we ⟨v2, u2, most, rfl, ⟨aX, nX, cX, Z, rfl, x17, hz⟩, ⟨aY, m2, cY, S, T, rfl, y10, hy⟩, hbe⟩
      have hB := hcut.trans (hbe.mono hcut.size)
      clear hcut hbe HZ1
      go_wp2_with fail
      refine (impl_TooFast aX nX cX Z aY m2 cY S T most _ hz hy (by omega) (by omega)).mono ?_
      rintro e wf ⟨aF, cF, rfl, oF, hbf⟩
      have hz2 := hz.below hbf
      have hy2 := hy.below hbf
      have hB2 := hB.trans (hbf.mono hB.size)
      have hF2 := oF.ints
      clear hz hy hB hbf oF
      go_wp2_with fail
      refine (spec_SpeedsBetween aX nX cX Z aY m2 cY S T _ hz2 hy2 (by omega) (by omega)).mono ?_
      rintro e wg ⟨aA, cA, rfl, oA, hbg⟩
      have hB := hB2.trans (hbg.mono hB2.size)
      have hF := hF2.below hbg
      have hA := oA.ints
      clear hz2 hy2 hB2 hF2 hbg oA
      have hc3 : (fastOk Z nX S T m2 most = false ∧ fastC Z nX S T m2 most ≠ 0) ∨ (fastOk Z nX S T m2 most = true ∧ fastC Z nX S T m2 most = 0 ∧ passOk Z nX S T m2 = true) := by
        unfold fastOk fastC
        cases passOk Z nX S T m2
        · exact Or.inl ⟨rfl, by rw [if_neg (by decide)]; decide⟩
        · cases inB most 0 100000
          · exact Or.inl ⟨rfl, by decide⟩
          · exact Or.inr ⟨rfl, rfl, rfl⟩
      generalize fastOk Z nX S T m2 most = K2 at *
      generalize fastC Z nX S T m2 most = C2 at *
      generalize passOk Z nX S T m2 = K3 at *
      rcases hc3 with ⟨rfl, h2⟩ | ⟨rfl, rfl, rfl⟩
      · have g0 : (C2 == 0) = false := by simpa using h2
        simp only [okL_no, List.length_nil] at *
        go_wp2_with fail
        go_returns
        exact ⟨rfl, hB⟩
      · simp only [okL_yes, okC_yes, speedsA_len] at *
        have hnn : m2 - 1 ≤ 10 := by omega
        have FA := Lib.hid (fun (j : Nat) (h : j < m2 - 1) => speedsA_at (Z := Z) (S := S) (T := T) h)
        have FB := Lib.hid (fun (i : Nat) (h : i < m2 - 1) => acc1_has (fastB Z S T most) h)
        have FC := Lib.hid (acc1_zero (fastB Z S T most) (m2 - 1))
        have FD := Lib.hid (show (fastA Z S T most (m2 - 1)).length ≤ m2 - 1 from accB_len _ _ _)
        have e1 : fastA Z S T most (m2 - 1) = accB (fastB Z S T most) (fun j => (j : Int) + 1) (m2 - 1) := rfl
        rw [← e1] at FB FC
        clear e1
        have hA' : IntsAt wg aA (m2 - 1) (spdV Z S T) := fun h => by
          obtain ⟨b, o, e, hb, hc⟩ := hA h
          exact ⟨b, o, e, hb, fun j hj => by rw [hc j hj]; dsimp only; rw [FA.out j hj]⟩
        clear hA FA
        have FE := Lib.hid (fun (j : Nat) => show fastB Z S T most j = decide (most < spdV Z S T j) from rfl)
        have FF := FD.out
        generalize fastA Z S T most (m2 - 1) = L at *
        generalize fastB Z S T most = qf at *
        generalize spdV Z S T = sv at *
        have kz := fun W h => laws_b10Has aF L.length cF (fun j => L.getD j 0) 0 W h (by omega)
        rw [FC.out] at kz
        have FK := Lib.hid (fun (x : Int) W h => laws_b10Has aF L.length cF (fun j => L.getD j 0) x W h (by omega))
        clear FC FD
        generalize hn : m2 - 1 = nn at *
        clear hn
        go_wp2_with fail
        go_loopw [30] (fun i wr => ∃ k : Nat, k ≤ nn ∧ i = .int .i64 (k : Int) ∧ IntsAt wr aF L.length (fun j => L.getD j 0) ∧ IntsAt wr aA nn sv ∧ Below w.heap.size w wr) (fun i _ => nn - (intOf i).toNat)
        case atStart => exact ⟨0, by omega, rfl, hF, hA', hB⟩
        case round => as_aux_lemma =>
          clear hF hA' hB
          obtain ⟨k, hk, rfl, hF, hA, hB⟩ := hrel
          by_cases hlt : k < nn
          · have kh := fun W h => FK.out ((k : Int) + 1) W h
            rw [FB.out k hlt, FE.out k] at kh
            obtain ⟨b, o, e, hb1, hc0⟩ := id hA (by omega)
            subst e
            have ck := hc0 k hlt
            clear hc0 FB FE FK
            generalize sv k = s at *
            have k0 : (k : Int) < (nn : Int) := by omega
            have k1 : wrap64 ((k : Int) + 1) = (k : Int) + 1 := by unfold wrap64; omega
            generalize hd : decide (most < s) = dd at *
            go_upto_region 40 with fail
            (refine wp_region_cls (by kernel_rfl) (by kernel_rfl) ?_; (repeat (go_big_quiet_step ((go_at_call 12; with_reducible exact cls_S (kh _ (hF.below (Cls.below _))))))); refine wpQuiet_nil ?_; rintro _ ⟨u, rfl⟩; have hb := u.below; replace hB := hB.trans (hb.mono hB.size); generalize u.w = w' at *; obtain ⟨hc, hf, hs⟩ := bkeep hb; have hq' := hb.size; have hq := hB.size; have hb' := hb; clear hb)
            have hF2 := hF.below hb'
            have hA2 := hA.below hb'
            clear hF hA hc hf hs hq' ck kh hd
            go_wp2
            go_roundw
            case rel => exact ⟨k + 1, by omega, by go_num, hF2, hA2, hB⟩
            case measure => simp [intOf]; omega
          · obtain rfl : k = nn := by omega
            go_wp2_with fail
            refine (kz _ hF).mono ?_
            rintro e w'' ⟨rfl, rfl⟩
            go_wp2_with fail
            go_returns
            exact ⟨rfl, hB⟩
  · by_cases h0 : 1048576 < n0
    · rw [decide_eq_true (show (1048576 : Int) < (n0 : Int) by omega)] at kl0
      clear kl1
      go_enter Tryd.func4, Tryd.ntmps4
      go_wp2_with fail
      refine (kl0 _).mono ?_
      rintro e w' ⟨rfl, rfl⟩
      go_wp2_with fail
      go_returns
      exact ⟨rfl, Below.refl _ _⟩
    · rw [decide_eq_false (show ¬ (1048576 : Int) < (n0 : Int) by omega)] at kl0
      rw [decide_eq_true (show (1048576 : Int) < (n1 : Int) by omega)] at kl1
      go_enter Tryd.func4, Tryd.ntmps4
      go_wp2_with fail
      refine (kl0 _).mono ?_
      rintro e w' ⟨rfl, rfl⟩
      go_wp2_with fail
      refine (kl1 _).mono ?_
      rintro e w' ⟨rfl, rfl⟩
      go_wp2_with fail
      go_returns
      exact ⟨rfl, Below.refl _ _⟩

end Go.Proofs.YtdhjnpjemaofoaaDoor
