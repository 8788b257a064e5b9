/-
  Walk of the law FnController.
-/
import Derived.Test.YtccejaneammplaaCt
import Derived.Test.YtccejaneammplaaPco
import Derived.Test.YtccejaneammplaaKO
import Derived.Test.YtccejaneammplaaKG2
import Derived.Test.YtccejaneammplaaKI2
import Derived.Test.YtccejaneammplaaKB
import Derived.Test.YtccejaneammplaaKQ3
import Derived.Test.YtccejaneammplaaAi
namespace Go.Proofs.Ytccejaneammplaa
open Go.RowKit
set_option linter.unusedVariables false
set_option linter.unusedSimpArgs false

theorem list_some {s : ByteArray} (h : s.size ≠ 0) : (s.toList == []) = false := by
  rw [beq_eq_false_iff_ne, ByteArray.toList_eq]
  intro e
  apply h
  have hl := Array.length_toList (xs := s.data)
  rw [e] at hl
  exact hl.symm
theorem modeName_some {m : Int} (h : 0 ≤ m ∧ m ≤ 4) : ((modeName m).toList == []) = false := by
  rcases (show m = 0 ∨ m = 1 ∨ m = 2 ∨ m = 3 ∨ m = 4 by omega) with rfl | rfl | rfl | rfl | rfl <;> exact list_some (by decide)
theorem eventName_some {m : Int} (h : 1 ≤ m ∧ m ≤ 9) : ((eventName m).toList == []) = false := by
  rcases (show m = 1 ∨ m = 2 ∨ m = 3 ∨ m = 4 ∨ m = 5 ∨ m = 6 ∨ m = 7 ∨ m = 8 ∨ m = 9 by omega) with rfl | rfl | rfl | rfl | rfl | rfl | rfl | rfl | rfl <;> exact list_some (by decide)
theorem AppOf.outc {B : Nat} {w : World} {v : Value} {L : List Int} (h : AppOf B w v L) : ∃ a c, v = .slice a L.length c ∧ L.length ≤ c ∧ c ≤ maxLen ∧ OwnIn B w.heap.size w a L.length (fun j => .int .i64 (L.getD j 0)) := by
  have h0 := h
  rcases h.2 with ⟨rfl, hn⟩ | ⟨g, cap, cur, rfl, hB, hg, hnc, hcc, _⟩
  · exact ⟨none, 0, by rw [hn], by omega, by unfold maxLen; omega, fun hp => by omega⟩
  · obtain ⟨a, c, e, hO⟩ := own_out h0
    have e1 : cap = c ∧ some (⟨g, 0, none⟩ : Addr) = a := by injection e with e1 e2 e3; exact ⟨e3, e1⟩
    obtain ⟨rfl, rfl⟩ := e1
    exact ⟨_, cap, rfl, hnc, hcc, hO⟩
theorem wp_build5 {d : Option Tmp} {ps : String} {af : Array Edge} {a : Act} {w : World} {next : Act → World → Prop} {Q : Exit → Act → World → Prop}
    (h : next (a.put d (.slice (some ⟨w.heap.size, 0, none⟩) 5 5)) (w.alloc (Obj.cells #[.int .i64 3, .int .i64 4, .int .i64 5, .int .i64 6, .int .i64 7] 2))) :
    Oper.wp Try.prog { dst := d, op := .buildSlice 27 5 #[(0, .const (.int .i64 3)), (1, .const (.int .i64 4)), (2, .const (.int .i64 5)), (3, .const (.int .i64 6)), (4, .const (.int .i64 7))], type := 27, pos := ps, after := af, guard := none } a w next Q := by
  unfold Oper.wp
  have e : (execOp a.eval { dst := d, op := .buildSlice 27 5 #[(0, .const (.int .i64 3)), (1, .const (.int .i64 4)), (2, .const (.int .i64 5)), (3, .const (.int .i64 6)), (4, .const (.int .i64 7))], type := 27, pos := ps, after := af, guard := none }).run Try.prog w = .ok (.value (.slice (some ⟨w.heap.size, 0, none⟩) 5 5)) (w.alloc (Obj.cells #[.int .i64 3, .int .i64 4, .int .i64 5, .int .i64 6, .int .i64 7] 2)) := by
    kernel_rfl
  rw [e]
  exact h

set_option maxHeartbeats 16000000 in
set_option maxRecDepth 100000 in
theorem law_FnController (a0 : Option Addr) (n0 c0 : Nat) (a1 : Option Addr) (n1 c1 : Nat) (w : World) (hz0 : BytesAt w a0 n0) (hz1 : BytesAt w a1 n1) :
    Calls Try.prog 3 #[.slice a0 n0 c0, .slice a1 n1 c1] w fun e w' => e = .returned (.bool true) ∧ Below w.heap.size w w' := by
  have kl := fun W => laws_r8Long a0 a1 n0 n1 c0 c1 W
  by_cases hlen : n0 ≤ 1048576 ∧ n1 ≤ 1048576
  · rw [decide_eq_false (show ¬ 1048576 < n0 by omega), decide_eq_false (show ¬ 1048576 < n1 by omega), Bool.or_false] at kl
    go_enter Try.func3, Try.ntmps3
    go_wp2_with (first | (go_at_call 4; (with_reducible refine (kl _).mono ?_); rintro e w' ⟨rfl, rfl⟩) | fail)
    refine (spec_R8Control a0 n0 c0 _ hz0 hlen.1).mono ?_
    rintro e wa ⟨m, o, a, b, e4, rfl, m0, m4, hba⟩
    have hz1a := hz1.below hba
    have sa := hba.size
    have HZ := Lib.hid hz1
    clear hz0 hz1 kl
    go_wp2_with fail
    have hX := StAt.made wa 25 m o a b e4
    have hB1 : Below w.heap.size w (wa.alloc (Obj.cells #[.int .i64 m, .bool o, .bool a, .bool b, .bool e4] 25)) := hba.alloc sa _
    have hz1b : BytesAt (wa.alloc (Obj.cells #[.int .i64 m, .bool o, .bool a, .bool b, .bool e4] 25)) a1 n1 := hz1a.below (Below.alloc (Below.refl _ _) (Nat.le_refl _) _)
    generalize wa.alloc (Obj.cells #[.int .i64 m, .bool o, .bool a, .bool b, .bool e4] 25) = wb at *
    generalize wa.heap.size = X at *
    have hok : inB m 0 4 = true := inB_true.2 ⟨m0, m4⟩
    have ka := impl_AllowedEvents m o a b e4 wb
    rw [hok, okL_yes, show okC true 1 = 0 from rfl] at ka
    refine ka.mono ?_
    rintro e wc ⟨aA, cA, rfl, oA, hbc⟩
    have hXc := hX.below hbc
    have hBc := hB1.trans (hbc.mono hB1.size)
    have hzc := hz1b.below hbc
    have p0 := hXc.c0
    dsimp only at p0
    clear hz1a hz1b hX hba hB1 hbc ka sa
    go_wp2_with fail
    refine (impl_ModeName m _).mono ?_
    rintro e wd ⟨rfl, hbd⟩
    have hm := modeName_some ⟨m0, m4⟩
    generalize modeName m = mn at *
    have hXd := hXc.below hbd
    have hBd := hBc.trans (hbd.mono hBc.size)
    have hzd := hzc.below hbd
    have hAd := oA.ints.below hbd
    clear hXc hBc hzc oA hbd p0
    go_wp2_with fail
    have hL : ∀ ev : Int, 1 ≤ ev → ev ≤ 9 → any (fun j => (allowA ⟨m, o, a, b, e4⟩ 9).getD j 0 == ev) (allowA ⟨m, o, a, b, e4⟩ 9).length = allowed ⟨m, o, a, b, e4⟩ ev := fun ev h1 h2 => allow_has h1 h2
    have hln : (allowA ⟨m, o, a, b, e4⟩ 9).length ≤ 9 := accB_len _ _ _
    generalize allowA ⟨m, o, a, b, e4⟩ 9 = L at *
    have kh := fun ev W h => laws_r8Has aA L.length cA (fun j => L.getD j 0) ev W h (by omega)
    have HL := Lib.hid hL
    clear hL
    -- the nine events
    go_loopw [8] (fun i wr => ∃ k : Nat, k ≤ 9 ∧ i = .int .i64 ((k : Int) + 1) ∧ StAt wr X ⟨m, o, a, b, e4⟩ ∧ IntsAt wr aA L.length (fun j => L.getD j 0) ∧ BytesAt wr a1 n1 ∧ Below w.heap.size w wr) (fun i _ => (10 - intOf i).toNat)
    case atStart => exact ⟨0, by omega, rfl, hXd, hAd, hzd, hBd⟩
    case round => as_aux_lemma =>
      clear hXd hAd hzd hBd
      obtain ⟨k, hk, rfl, hX, hA, hz, hB⟩ := hrel
      by_cases hlt : k < 9
      · have hB1 := hB.size
        have v1 : (1 : Int) ≤ (k : Int) + 1 := by omega
        have v2 : (k : Int) + 1 ≤ 9 := by omega
        have hE := eventName_some (m := (k : Int) + 1) ⟨v1, v2⟩
        have kE := fun W => impl_EventName ((k : Int) + 1) W
        have kN := fun W => impl_NextState m o a b e4 ((k : Int) + 1) W
        have kH := fun W h => kh ((k : Int) + 1) W h
        rw [HL.out _ v1 v2] at kH
        generalize eventName ((k : Int) + 1) = en at *
        have p0 := hX.c0
        have p1 := hX.c1
        have p2 := hX.c2
        have p3 := hX.c3
        have p4 := hX.c4
        dsimp only at p0 p1 p2 p3 p4
        cases hal : allowed ⟨m, o, a, b, e4⟩ ((k : Int) + 1)
        · obtain ⟨e1, e2⟩ := next_6 (x := ⟨m, o, a, b, e4⟩) (ev := (k : Int) + 1) hok (inB_true.2 ⟨v1, v2⟩) hal
          simp only [e1, e2, St.val, St.zero] at kN
          rw [hal] at kH
          clear e1 e2 hal
          go_wp2_with fail
          refine (kN _).mono ?_
          rintro e w1 ⟨rfl, hb⟩
          have hX1 := hX.below hb
          have hA1 := hA.below hb
          have hz1 := hz.below hb
          have hB2 := hB.trans (hb.mono hB1)
          have sB2 := hB2.size
          clear hX hA hz hB hb p0 p1 p2 p3 p4
          go_wp2_with fail
          refine (kH _ (hA1.below (by go_grown))).mono ?_
          rintro e w' ⟨rfl, rfl⟩
          go_wp2_with fail
          refine (kE _).mono ?_
          rintro e w2 ⟨rfl, hb2⟩
          go_wp2
          go_roundw
          case rel => exact ⟨k + 1, by omega, by go_num, (hX1.below (by go_grown)).below hb2, (hA1.below (by go_grown)).below hb2, (hz1.below (by go_grown)).below hb2, (hB2.alloc sB2 _).trans (hb2.mono (by simp; omega))⟩
          case measure => simp [intOf]; omega
        · obtain ⟨e1, e2⟩ := next_0 (x := ⟨m, o, a, b, e4⟩) (ev := (k : Int) + 1) hok (inB_true.2 ⟨v1, v2⟩) hal
          have hne := after_ne (x := ⟨m, o, a, b, e4⟩) v1 v2 hal
          have hao := after_ok (x := ⟨m, o, a, b, e4⟩) (ev := (k : Int) + 1) hok
          simp only [e1, e2] at kN
          rw [hal] at kH
          clear e1 e2 hal
          generalize after ⟨m, o, a, b, e4⟩ ((k : Int) + 1) = R at *
          obtain ⟨r0, r1, r2, r3, r4⟩ := R
          simp only [St.val] at kN
          rw [St.eqB] at hne
          go_wp2_with fail
          refine (kN _).mono ?_
          rintro e w1 ⟨rfl, hb⟩
          have hX1 := hX.below hb
          have hA1 := hA.below hb
          have hz1 := hz.below hb
          have hB2 := hB.trans (hb.mono hB1)
          have sB2 := hB2.size
          have p0 := hX1.c0
          have p1 := hX1.c1
          have p2 := hX1.c2
          have p3 := hX1.c3
          have p4 := hX1.c4
          have lX := hX1.lt
          dsimp only at p0 p1 p2 p3 p4
          have kV := fun W => spec_ValidControl r0 r1 r2 r3 r4 W
          rw [show inB r0 0 4 = true from hao] at kV
          clear hX hA hz hB hb
          go_wp2_with fail
          refine (kH _ (hA1.below (by go_grown))).mono ?_
          rintro e w' ⟨rfl, rfl⟩
          go_wp2_with fail
          refine (kV _).mono ?_
          rintro e w2 ⟨rfl, hb2⟩
          have q0 := (hb2.cell (p := ⟨X, 0, none⟩) (by first | omega | (simp; omega))).trans (show _ = some (.int .i64 m) by go_cell)
          have q1 := (hb2.cell (p := ⟨X, 1, none⟩) (by first | omega | (simp; omega))).trans (show _ = some (.bool o) by go_cell)
          have q2 := (hb2.cell (p := ⟨X, 2, none⟩) (by first | omega | (simp; omega))).trans (show _ = some (.bool a) by go_cell)
          have q3 := (hb2.cell (p := ⟨X, 3, none⟩) (by first | omega | (simp; omega))).trans (show _ = some (.bool b) by go_cell)
          have q4 := (hb2.cell (p := ⟨X, 4, none⟩) (by first | omega | (simp; omega))).trans (show _ = some (.bool e4) by go_cell)
          have y0 := (hb2.cell (p := ⟨w1.heap.size, 0, none⟩) (by simp)).trans (show _ = some (.int .i64 r0) by go_cell)
          have y1 := (hb2.cell (p := ⟨w1.heap.size, 1, none⟩) (by simp)).trans (show _ = some (.bool r1) by go_cell)
          have y2 := (hb2.cell (p := ⟨w1.heap.size, 2, none⟩) (by simp)).trans (show _ = some (.bool r2) by go_cell)
          have y3 := (hb2.cell (p := ⟨w1.heap.size, 3, none⟩) (by simp)).trans (show _ = some (.bool r3) by go_cell)
          have y4 := (hb2.cell (p := ⟨w1.heap.size, 4, none⟩) (by simp)).trans (show _ = some (.bool r4) by go_cell)
          have hX2 := (hX1.below (by go_grown)).below hb2
          have hA2 := (hA1.below (by go_grown)).below hb2
          have hz2 := (hz1.below (by go_grown)).below hb2
          have hB3 : Below w.heap.size w w2 := (hB2.alloc sB2 _).trans (hb2.mono (by simp; omega))
          have sB3 := hB3.size
          have kQ := fun W => run_eq_State m r0 o a b e4 r1 r2 r3 r4 W
          rw [hne] at kQ
          clear hX1 hA1 hz1 hB2 p0 p1 p2 p3 p4
          go_wp2_with fail
          refine (kE _).mono ?_
          rintro e w3 ⟨rfl, hb3⟩
          go_wp2
          go_roundw
          case rel => exact ⟨k + 1, by omega, by go_num, hX2.below hb3, hA2.below hb3, hz2.below hb3, hB3.trans (hb3.mono sB3)⟩
          case measure => simp [intOf]; omega
      · obtain rfl : k = 9 := by omega
        have sB := hB.size
        clear hk hlt
        go_wp2_with fail
        go_loopw [11, 12] (fun u i wr => ∃ (k : Nat) (L2 : List Int), k ≤ 40 ∧ i = .int .i64 (k : Int) ∧ AppOf w.heap.size wr u L2 ∧ L2.length ≤ 6 * k ∧ (∀ v, v ∈ L2 → 1 ≤ v ∧ v ≤ 9) ∧ Below w.heap.size w wr) (fun _ i _ => (40 - intOf i).toNat)
        case atStart => exact ⟨0, [], by omega, rfl, AppOf.made sB, by simp, by simp, hB.alloc sB _⟩
        case round => as_aux_lemma =>
          clear hz hA hX hB sB
          obtain ⟨k, L2, hk, rfl, hU, hl, hv, hB⟩ := hrel
          have sB := hB.size
          have hz := HZ.out.below hB
          have HV := Lib.hid hv
          clear hv
          go_wp2_with fail
          refine (laws_r8At a1 n1 c1 0 40 _ hz hlen.2 (by omega) (by omega) (by omega)).mono ?_
          rintro e w1 ⟨v, rfl, v0, v1, rfl⟩
          by_cases hlt : (k : Int) < v
          · have hk2 : k < 40 := by omega
            go_wp2_with fail
            refine (laws_r8At a1 n1 c1 (1 + k) 9 _ hz hlen.2 (by omega) (by omega) (by omega)).mono ?_
            rintro e w1 ⟨y, rfl, y0, y1, rfl⟩
            go_wp2_with (at_builtin; refine app_int _ rfl _ _ rfl w.heap.size _ _ rfl (hU.alloc _) wr.heap.size 1 (1 + y) rfl (by go_cell) (by omega) (by simp; omega) ?_; intro v' w2 hU' hw2)
            have hB2 : Below w.heap.size w w2 := (hB.alloc sB _).trans hw2
            have sB2 := hB2.size
            have hz2 := HZ.out.below hB2
            have hv2 : ∀ v, v ∈ L2 ++ [1 + y] → 1 ≤ v ∧ v ≤ 9 := fun v hv => by
              rcases List.mem_append.1 hv with h | h
              · exact HV.out v h
              · obtain rfl := List.mem_singleton.1 h
                omega
            have hl2 : (L2 ++ [1 + y]).length ≤ 6 * k + 1 := by simp; omega
            clear hU hl HV hw2 hB hz
            have HV2 := Lib.hid hv2
            clear hv2
            generalize L2 ++ [1 + y] = L3 at *
            refine (laws_r8At a1 n1 c1 (50 + k) 3 _ hz2 hlen.2 (by omega) (by omega) (by omega)).mono ?_
            rintro e w1 ⟨y2, rfl, y3, y4, rfl⟩
            obtain ⟨aU, cU, rfl, hnc, hcc, hO⟩ := hU'.outc
            by_cases hq : y2 = 0 ∧ L3.length < 40
            · obtain ⟨rfl, hq⟩ := hq
              have hq' : (L3.length : Int) < 40 := by omega
              have h5 : ∀ j : Nat, j < 5 → (w2.alloc (Obj.cells #[.int .i64 3, .int .i64 4, .int .i64 5, .int .i64 6, .int .i64 7] 2)).cell? ⟨w2.heap.size, 0 + j, none⟩ = some (.int .i64 (3 + (j : Int))) := fun j hj => by
                rcases (show j = 0 ∨ j = 1 ∨ j = 2 ∨ j = 3 ∨ j = 4 by omega) with rfl | rfl | rfl | rfl | rfl
                all_goals go_cell
              go_upto_region 19 with fail
              clear hO
              generalize Value.slice aU L3.length cU = v' at *
              iterate 5 (first | go_values | go_skip | go_guarded | go_step | go_upon | go_back)
              refine wp_build5 ?_
              go_wp2_with (at_builtin; refine app_many _ rfl _ _ rfl w.heap.size _ L3 rfl (hU'.alloc _) w2.heap.size 0 5 5 (fun j : Nat => 3 + (j : Int)) rfl h5 (by omega) (by simp; omega) ?_; intro v' w3 hU3 hw3)
              have hB3 : Below w.heap.size w w3 := (hB2.alloc sB2 _).trans hw3
              go_roundw
              case rel =>
                have hv3 : ∀ v, v ∈ L3 ++ (List.range 5).map (fun j : Nat => 3 + (j : Int)) → 1 ≤ v ∧ v ≤ 9 := fun v hv => by
                  rcases List.mem_append.1 hv with h | h
                  · exact HV2.out v h
                  · obtain ⟨j, hj, rfl⟩ := List.mem_map.1 h
                    have := List.mem_range.1 hj
                    omega
                have hl3 : (L3 ++ (List.range 5).map (fun j : Nat => 3 + (j : Int))).length ≤ 6 * (k + 1) := by rw [List.length_append, List.length_map, List.length_range]; omega
                first | exact ⟨k + 1, _, by omega, by go_num, hU3, hl3, hv3, hB3⟩ | ((repeat apply Exists.intro); exact ⟨⟨k + 1, _, by omega, by go_num, hU3, hl3, hv3, hB3⟩, rfl⟩)
              case measure => simp [intOf]; omega
            · have hq1 : y2 ≠ 0 ∨ ¬ (L3.length : Int) < 40 := by omega
              rcases hq1 with hq1 | hq1
              · go_wp2
                go_roundw
                case rel => first | exact ⟨k + 1, L3, by omega, by go_num, hU', by omega, HV2.out, hB2⟩ | ((repeat apply Exists.intro); exact ⟨⟨k + 1, L3, by omega, by go_num, hU', by omega, HV2.out, hB2⟩, rfl⟩)
                case measure => simp [intOf]; omega
              · by_cases hq2 : y2 = 0
                · subst hq2
                  go_wp2
                  go_roundw
                  case rel => first | exact ⟨k + 1, L3, by omega, by go_num, hU', by omega, HV2.out, hB2⟩ | ((repeat apply Exists.intro); exact ⟨⟨k + 1, L3, by omega, by go_num, hU', by omega, HV2.out, hB2⟩, rfl⟩)
                  case measure => simp [intOf]; omega
                · go_wp2
                  go_roundw
                  case rel => first | exact ⟨k + 1, L3, by omega, by go_num, hU', by omega, HV2.out, hB2⟩ | ((repeat apply Exists.intro); exact ⟨⟨k + 1, L3, by omega, by go_num, hU', by omega, HV2.out, hB2⟩, rfl⟩)
                  case measure => simp [intOf]; omega
          · obtain ⟨aU, cU, rfl, hnc, hcc, hO⟩ := hU.outc
            have hI := hO.ints
            clear hU hO hz
            go_upto_if 115 with fail
            go_cut [11] (fun u W => W = wr ∧ ∃ (n cn : Nat), u = .slice aU n cn ∧ n ≤ 60 ∧ n ≤ L2.length)
            case first => as_aux_lemma =>
              by_cases h60 : 60 < L2.length
              · have h60' : (60 : Int) < L2.length := by omega
                have h60c : (60 : Int) ≤ cU := by omega
                go_wp2_with fail
                go_meet
                exact ⟨rfl, _, _, rfl, by omega, by omega⟩
              · have h60' : ¬ (60 : Int) < L2.length := by omega
                go_wp2_with fail
                go_meet
                exact ⟨rfl, _, _, rfl, by omega, by omega⟩
            case rest => as_aux_lemma =>
              obtain ⟨rfl, n, cn, rfl, hn60, hnL⟩ := hcut
              obtain ⟨Z, hZ, hev⟩ : ∃ Z : Nat → Int, IntsAt wc aU n Z ∧ ∀ j, j < n → 1 ≤ Z j ∧ Z j ≤ 9 := by
                refine ⟨fun j => L2.getD j 0, fun h0 => ?_, fun j hj => ?_⟩
                · obtain ⟨b, o, e1, e2, e3⟩ := hI (by omega)
                  exact ⟨b, o, e1, e2, fun j hj => e3 j (by omega)⟩
                · refine HV.out _ ?_
                  have : L2.getD j 0 = L2[j]'(by omega) := by simp [List.getD_eq_getElem?_getD, show j < L2.length by omega]
                  show L2.getD j 0 ∈ L2
                  rw [this]
                  exact List.getElem_mem _
              clear hI HV hnL kh HL HZ hln hok hk hl v0 v1 hnc hcc hlt
              have hcc : runC ⟨0, false, false, false, true⟩ Z n = 0 := by
                unfold runC
                rw [if_pos (by decide), if_neg (by rw [show badEv Z n = false from any_false.2 (fun j hj => by simp [inB_true.2 (hev j hj)])]; decide), if_pos (by omega)]
              obtain ⟨q1, q2, q3, q4⟩ := run_ok hcc
              have hinv : ∀ k, (inB (stE ⟨0, false, false, false, true⟩ Z k).m 0 4 && isSafe (stE ⟨0, false, false, false, true⟩ Z k).m (stE ⟨0, false, false, false, true⟩ Z k).o (stE ⟨0, false, false, false, true⟩ Z k).e) = true := fun k => (stE_inv InvS.first (Z := Z) k).safe
              have hok1 : ∀ k, (stE ⟨0, false, false, false, true⟩ Z k).ok = true := fun k => inB_true.2 (stE_inv InvS.first (Z := Z) k).ok
              have kr := fun W h => impl_RunEvents 0 false false false true aU n cn Z W h (by omega)
              have kd := fun W h => impl_CountRides 0 false false false true aU n cn Z W h (by omega)
              rw [q1, q2, q3] at kr
              rw [q1, q4] at kd
              have HE := Lib.hid hev
              have HI := Lib.hid hinv
              have HO := Lib.hid hok1
              have HR := Lib.hid kr
              have HD := Lib.hid kd
              clear hev hcc q1 q2 q3 q4 hinv hok1 kr kd
              go_wp2_with fail
              refine (impl_FirstState _).mono ?_
              rintro e wf ⟨rfl, hbf⟩
              have hBf := hB.trans (hbf.mono sB)
              have sf := hBf.size
              have hZf := hZ.below hbf
              clear hB sB hbf hZ
              go_wp2_with fail
              have hO := StAt.made wf 25 0 false false false true
              have hBg : Below w.heap.size w (wf.alloc (Obj.cells #[.int .i64 0, .bool false, .bool false, .bool false, .bool true] 25)) := hBf.alloc sf _
              have hZg := hZf.below (Below.alloc (Below.refl _ _) (Nat.le_refl _) (Obj.cells #[.int .i64 0, .bool false, .bool false, .bool false, .bool true] 25))
              have hZl : 0 < n → ∃ b o, aU = some ⟨b, o, none⟩ ∧ b < wf.heap.size ∧ ∀ j, j < n → (wf.alloc (Obj.cells #[.int .i64 0, .bool false, .bool false, .bool false, .bool true] 25)).cell? ⟨b, o + j, none⟩ = some (.int .i64 (Z j)) := fun h0 => by
                obtain ⟨b, o, e1, e2, e3⟩ := hZf h0
                obtain ⟨b', o', e1', _, e3'⟩ := hZg h0
                have e : (some ⟨b, o, none⟩ : Option Addr) = some ⟨b', o', none⟩ := e1.symm.trans e1'
                injection e with e; injection e with eb eo
                subst eb; subst eo
                exact ⟨b, o, e1, e2, e3'⟩
              clear hZf hZg
              generalize wf.alloc (Obj.cells #[.int .i64 0, .bool false, .bool false, .bool false, .bool true] 25) = w0 at *
              generalize hG : wf.heap.size = G at *
              have hBW := Lib.hid hBg
              have HG : w.heap.size ≤ G := by omega
              clear hBf hG hBg
              go_loopw [14, 15, 16] (fun ig ri i wr => ∃ k : Nat, k ≤ n ∧ i = .int .i64 k ∧ ig = .int .i64 (refE ⟨0, false, false, false, true⟩ Z k : Int) ∧ ri = .int .i64 (rideE ⟨0, false, false, false, true⟩ Z k : Int) ∧ StAt wr G (stE ⟨0, false, false, false, true⟩ Z k) ∧ Below G w0 wr) (fun _ _ i _ => n - (intOf i).toNat)
              case atStart => exact ⟨0, by omega, rfl, rfl, rfl, hO, Below.refl _ _⟩
              case round => as_aux_lemma =>
                clear hO
                obtain ⟨k, hk, rfl, rfl, rfl, hO, hB⟩ := hrel
                have l1 := refE_le ⟨0, false, false, false, true⟩ Z k
                have l2 := rideE_le ⟨0, false, false, false, true⟩ Z k
                have hl := hO.lt
                have hi1 := HI.out (k + 1)
                have hy0 := HO.out k
                have hno := fun h => run_no (x := ⟨0, false, false, false, true⟩) (Z := Z) (k := k) h
                have hyes := fun h => run_yes (x := ⟨0, false, false, false, true⟩) (Z := Z) (k := k) h
                by_cases hlt : k < n
                · obtain ⟨b', o', rfl, hb', hc⟩ := hZl (by omega)
                  have ck := (hB.cell (p := ⟨b', o' + k, none⟩) hb').trans (hc k hlt)
                  have hb'' : b' < wr.heap.size := Nat.lt_trans hb' hl
                  obtain ⟨v1, v2⟩ := HE.out k hlt
                  have i0 : (0 : Int) ≤ (k : Int) := by omega
                  have i1 : (k : Int) < (n : Int) := by omega
                  have hbG : b' ≠ G := by omega
                  clear hc hZl
                  generalize refE ⟨0, false, false, false, true⟩ Z k = rf at *
                  generalize rideE ⟨0, false, false, false, true⟩ Z k = rd at *
                  generalize hyk : stE ⟨0, false, false, false, true⟩ Z k = y at *
                  have HY := Lib.hid hyk
                  clear hyk
                  obtain ⟨y0, y1, y2, y3, y4⟩ := y
                  have kN := fun W => spec_NextState y0 y1 y2 y3 y4 (Z k) W
                  generalize Z k = ev at *
                  have d0 := hO.c0
                  have d1 := hO.c1
                  have d2 := hO.c2
                  have d3 := hO.c3
                  have d4 := hO.c4
                  dsimp only at d0 d1 d2 d3 d4
                  cases hal : allowed ⟨y0, y1, y2, y3, y4⟩ ev
                  · obtain ⟨e1, e2⟩ := next_6 hy0 (inB_true.2 ⟨v1, v2⟩) hal
                    rw [e1, e2] at kN
                    obtain ⟨f1, f2, f3⟩ := hno hal
                    rw [f1] at hi1
                    have E1 := Lib.hid f1
                    have E2 := Lib.hid f2
                    have E3 := Lib.hid f3
                    dsimp only at hi1
                    have ks := fun W => impl_IsSafeState y0 y1 y2 y3 y4 W
                    rw [hi1] at ks
                    clear hno hyes e1 e2 f1 f2 f3 hal hi1 hy0
                    simp only [St.val, St.zero] at kN
                    go_upto_region 28 with fail
                    go_cut [17, 18] (fun p q W => ∃ h : Nat, p = .pointer (some ⟨h, 0, none⟩) ∧ q = .int .i64 6 ∧ wr.heap.size ≤ h ∧ h < W.heap.size ∧ W.cell? ⟨h, 0, none⟩ = some (.int .i64 0) ∧ W.cell? ⟨h, 1, none⟩ = some (.bool false) ∧ W.cell? ⟨h, 2, none⟩ = some (.bool false) ∧ W.cell? ⟨h, 3, none⟩ = some (.bool false) ∧ W.cell? ⟨h, 4, none⟩ = some (.bool false) ∧ Below wr.heap.size wr W)
                    case first => as_aux_lemma =>
                      clear HR HD HI HE HO E1 E2 E3 HY hBW ks sf HG hn60 hm m0 m4 hlen hk hlt v1 v2 l1 l2 hO hB
                      go_region_held3 (fun W => W.cell? ⟨G, 0, none⟩ = some (.int .i64 y0) ∧ W.cell? ⟨G, 1, none⟩ = some (.bool y1) ∧ W.cell? ⟨G, 2, none⟩ = some (.bool y2) ∧ W.cell? ⟨G, 3, none⟩ = some (.bool y3) ∧ W.cell? ⟨G, 4, none⟩ = some (.bool y4) ∧ W.cell? ⟨b', o' + k, none⟩ = some (.int .i64 ev) ∧ G < W.heap.size ∧ b' < W.heap.size ∧ wr.heap.size ≤ W.heap.size ∧ Below wr.heap.size wr W) (first | (refine ⟨?_, ?_, ?_, ?_, ?_, ?_, ?_, ?_, ?_, ?_⟩ <;> (repeat' (first | (with_reducible assumption) | (with_reducible refine cell_far ?_ ?_) | (with_reducible refine cell_old ?_ (by first | (with_reducible assumption) | omega | (simp; done) | (simp; omega))) | (with_reducible refine cell_drew ?_) | omega | (simp only [World.size_alloc, World.size_setCell, World.size_drew]; omega) | (with_reducible refine below_set ?_ ?_) | (with_reducible refine Below.alloc ?_ ?_ _) | (with_reducible refine Below.drew ?_) | (with_reducible exact Below.refl _ _) | omega | (go_cell; done) | (simp; done) | (simp; omega))); done)) (first | (go_at_call 14; obtain ⟨s0, s1, s2, s3, s4, s5, z0, z1, z2, sB⟩ := ‹_ ∧ _ ∧ _ ∧ _ ∧ _ ∧ _ ∧ _ ∧ _ ∧ _ ∧ _›; (with_reducible refine (kN _).mono ?_); rintro e' w1 ⟨rfl, hb⟩; have s0' := (hb.cell (p := ⟨G, 0, none⟩) z0).trans s0; have s1' := (hb.cell (p := ⟨G, 1, none⟩) z0).trans s1; have s2' := (hb.cell (p := ⟨G, 2, none⟩) z0).trans s2; have s3' := (hb.cell (p := ⟨G, 3, none⟩) z0).trans s3; have s4' := (hb.cell (p := ⟨G, 4, none⟩) z0).trans s4; have s5' := (hb.cell (p := ⟨b', o' + k, none⟩) z1).trans s5; have z0' := Nat.lt_of_lt_of_le z0 hb.size; have z1' := Nat.lt_of_lt_of_le z1 hb.size; have z2' := Nat.le_trans z2 hb.size; have sB' : Below wr.heap.size wr w1 := Below.trans sB (hb.mono sB.size); obtain ⟨hc, hf, hs⟩ := bkeep hb; clear hb))
                      all_goals
                        go_wp2_with fail
                        go_meet
                        obtain ⟨s0, s1, s2, s3, s4, s5, z0, z1, z2, sB⟩ := ‹_ ∧ _ ∧ _ ∧ _ ∧ _ ∧ _ ∧ _ ∧ _ ∧ _ ∧ _›
                        refine ⟨_, rfl, rfl, ?_, ?_, ?_, ?_, ?_, ?_, ?_, sB⟩
                        all_goals first | (go_simp; done) | (simp; done) | (simp; omega) | omega | (refine cell_off (cell_off (cell_off (cell_off (cell_same (x := .int .i64 0) ?_) (by decide)) (by decide)) (by decide)) (by decide); go_simp; done) | (refine cell_off (cell_off (cell_off (cell_same (x := .bool false) (cell_off ?_ (by decide))) (by decide)) (by decide)) (by decide); go_simp; done) | (refine cell_off (cell_off (cell_same (x := .bool false) (cell_off (cell_off ?_ (by decide)) (by decide))) (by decide)) (by decide); go_simp; done) | (refine cell_off (cell_same (x := .bool false) (cell_off (cell_off (cell_off ?_ (by decide)) (by decide)) (by decide))) (by decide); go_simp; done) | (refine cell_same (x := .bool false) (cell_off (cell_off (cell_off (cell_off ?_ (by decide)) (by decide)) (by decide)) (by decide)); go_simp; done)
                    case rest => as_aux_lemma =>
                      obtain ⟨h, rfl, rfl, h0, hl1, k0, k1, k2, k3, k4, hbW⟩ := hcut
                      replace hO := hO.below hbW
                      replace hB := hB.trans (hbW.mono (Nat.le_of_lt hl))
                      replace hl := hO.lt
                      clear hbW ck
                      have p0 := hO.c0
                      have p1 := hO.c1
                      have p2 := hO.c2
                      have p3 := hO.c3
                      have p4 := hO.c4
                      dsimp only at p0 p1 p2 p3 p4
                      clear d0 d1 d2 d3 d4
                      go_wp2_with fail
                      refine (ks _).mono ?_
                      rintro e w5 ⟨rfl, hb5⟩
                      have hO5 := hO.below hb5
                      have hB5 := hB.trans (hb5.mono (Nat.le_of_lt hl))
                      clear hO hB hl p0 p1 p2 p3 p4
                      go_wp2
                      go_roundw
                      case rel => exact ⟨k + 1, by omega, by go_num, by rw [E2.out]; go_num, by rw [E3.out], by rw [E1.out]; exact hO5, hB5⟩
                      case measure => simp [intOf]; omega
                  · obtain ⟨e1, e2⟩ := next_0 hy0 (inB_true.2 ⟨v1, v2⟩) hal
                    rw [e1, e2] at kN
                    obtain ⟨f1, f2, f3⟩ := hyes hal
                    rw [f1] at hi1
                    have E1 := Lib.hid f1
                    have E2 := Lib.hid f2
                    have E3 := Lib.hid f3
                    clear hno hyes e1 e2 f1 f2 f3 hal hy0
                    generalize after ⟨y0, y1, y2, y3, y4⟩ ev = R at *
                    obtain ⟨r0, r1, r2, r3, r4⟩ := R
                    dsimp only at hi1
                    have ks := fun W => impl_IsSafeState r0 r1 r2 r3 r4 W
                    rw [hi1] at ks
                    clear hi1
                    simp only [St.val] at kN
                    go_upto_region 28 with fail
                    go_cut [17, 18] (fun p q W => ∃ h : Nat, p = .pointer (some ⟨h, 0, none⟩) ∧ q = .int .i64 0 ∧ wr.heap.size ≤ h ∧ h < W.heap.size ∧ W.cell? ⟨h, 0, none⟩ = some (.int .i64 r0) ∧ W.cell? ⟨h, 1, none⟩ = some (.bool r1) ∧ W.cell? ⟨h, 2, none⟩ = some (.bool r2) ∧ W.cell? ⟨h, 3, none⟩ = some (.bool r3) ∧ W.cell? ⟨h, 4, none⟩ = some (.bool r4) ∧ Below wr.heap.size wr W)
                    case first => as_aux_lemma =>
                      clear HR HD HI HE HO E1 E2 E3 HY hBW ks sf HG hn60 hm m0 m4 hlen hk hlt v1 v2 l1 l2 hO hB
                      go_region_held3 (fun W => W.cell? ⟨G, 0, none⟩ = some (.int .i64 y0) ∧ W.cell? ⟨G, 1, none⟩ = some (.bool y1) ∧ W.cell? ⟨G, 2, none⟩ = some (.bool y2) ∧ W.cell? ⟨G, 3, none⟩ = some (.bool y3) ∧ W.cell? ⟨G, 4, none⟩ = some (.bool y4) ∧ W.cell? ⟨b', o' + k, none⟩ = some (.int .i64 ev) ∧ G < W.heap.size ∧ b' < W.heap.size ∧ wr.heap.size ≤ W.heap.size ∧ Below wr.heap.size wr W) (first | (refine ⟨?_, ?_, ?_, ?_, ?_, ?_, ?_, ?_, ?_, ?_⟩ <;> (repeat' (first | (with_reducible assumption) | (with_reducible refine cell_far ?_ ?_) | (with_reducible refine cell_old ?_ (by first | (with_reducible assumption) | omega | (simp; done) | (simp; omega))) | (with_reducible refine cell_drew ?_) | omega | (simp only [World.size_alloc, World.size_setCell, World.size_drew]; omega) | (with_reducible refine below_set ?_ ?_) | (with_reducible refine Below.alloc ?_ ?_ _) | (with_reducible refine Below.drew ?_) | (with_reducible exact Below.refl _ _) | omega | (go_cell; done) | (simp; done) | (simp; omega))); done)) (first | (go_at_call 14; obtain ⟨s0, s1, s2, s3, s4, s5, z0, z1, z2, sB⟩ := ‹_ ∧ _ ∧ _ ∧ _ ∧ _ ∧ _ ∧ _ ∧ _ ∧ _ ∧ _›; (with_reducible refine (kN _).mono ?_); rintro e' w1 ⟨rfl, hb⟩; have s0' := (hb.cell (p := ⟨G, 0, none⟩) z0).trans s0; have s1' := (hb.cell (p := ⟨G, 1, none⟩) z0).trans s1; have s2' := (hb.cell (p := ⟨G, 2, none⟩) z0).trans s2; have s3' := (hb.cell (p := ⟨G, 3, none⟩) z0).trans s3; have s4' := (hb.cell (p := ⟨G, 4, none⟩) z0).trans s4; have s5' := (hb.cell (p := ⟨b', o' + k, none⟩) z1).trans s5; have z0' := Nat.lt_of_lt_of_le z0 hb.size; have z1' := Nat.lt_of_lt_of_le z1 hb.size; have z2' := Nat.le_trans z2 hb.size; have sB' : Below wr.heap.size wr w1 := Below.trans sB (hb.mono sB.size); obtain ⟨hc, hf, hs⟩ := bkeep hb; clear hb))
                      all_goals
                        go_wp2_with fail
                        go_meet
                        obtain ⟨s0, s1, s2, s3, s4, s5, z0, z1, z2, sB⟩ := ‹_ ∧ _ ∧ _ ∧ _ ∧ _ ∧ _ ∧ _ ∧ _ ∧ _ ∧ _›
                        refine ⟨_, rfl, rfl, ?_, ?_, ?_, ?_, ?_, ?_, ?_, sB⟩
                        all_goals first | (go_simp; done) | (simp; done) | (simp; omega) | omega | (refine cell_off (cell_off (cell_off (cell_off (cell_same (x := .int .i64 0) ?_) (by decide)) (by decide)) (by decide)) (by decide); go_simp; done) | (refine cell_off (cell_off (cell_off (cell_same (x := .bool false) (cell_off ?_ (by decide))) (by decide)) (by decide)) (by decide); go_simp; done) | (refine cell_off (cell_off (cell_same (x := .bool false) (cell_off (cell_off ?_ (by decide)) (by decide))) (by decide)) (by decide); go_simp; done) | (refine cell_off (cell_same (x := .bool false) (cell_off (cell_off (cell_off ?_ (by decide)) (by decide)) (by decide))) (by decide); go_simp; done) | (refine cell_same (x := .bool false) (cell_off (cell_off (cell_off (cell_off ?_ (by decide)) (by decide)) (by decide)) (by decide)); go_simp; done)
                    case rest => as_aux_lemma =>
                      obtain ⟨h, rfl, rfl, h0, hl1, k0, k1, k2, k3, k4, hbW⟩ := hcut
                      have hne : h ≠ G := by omega
                      replace hO := hO.below hbW
                      replace hB := hB.trans (hbW.mono (Nat.le_of_lt hl))
                      replace hl := hO.lt
                      replace ck := (hbW.cell (p := ⟨b', o' + k, none⟩) hb'').trans ck
                      clear hbW
                      have g0 := hO.fr (show 0 < 5 by decide)
                      have g1 := hO.fr (show 1 < 5 by decide)
                      have g2 := hO.fr (show 2 < 5 by decide)
                      have g3 := hO.fr (show 3 < 5 by decide)
                      have g4 := hO.fr (show 4 < 5 by decide)
                      have p0 := hO.c0
                      have p1 := hO.c1
                      have p2 := hO.c2
                      have p3 := hO.c3
                      have p4 := hO.c4
                      dsimp only at p0 p1 p2 p3 p4
                      clear d0 d1 d2 d3 d4
                      have s5 := size_put
                      cases h7 : (ev == 7)
                      all_goals
                        have f3 := E3.out
                        rw [h7] at f3
                        have F3 := Lib.hid f3
                        clear f3
                        go_wp2_with fail
                        refine (ks _).mono ?_
                        rintro e w5 ⟨rfl, hb5⟩
                        have hO5 := (hO.put r0 r1 r2 r3 r4).below hb5
                        have hB5 := (hB.trans ((keep_put _ G _ _ _ _ _).below (Nat.le_refl _) (by omega))).trans (hb5.mono (by rw [size_put]; omega))
                        clear hO hB hl p0 p1 p2 p3 p4 g0 g1 g2 g3 g4 k0 k1 k2 k3 k4 ck
                        go_wp2
                        go_roundw
                        case rel => exact ⟨k + 1, by omega, by go_num, by rw [E2.out], by rw [F3.out]; first | rfl | (rw [if_pos rfl]; go_num) | rw [if_neg (by decide)], by rw [E1.out]; exact hO5, hB5⟩
                        case measure => simp [intOf]; omega
                · obtain rfl : k = n := by omega
                  clear hno hyes hi1
                  have hZe : IntsAt wr aU k Z := fun h0 => by
                    obtain ⟨b, o, e1, e2, e3⟩ := hZl h0
                    exact ⟨b, o, e1, Nat.lt_trans e2 hl, fun j hj => (hB.cell (p := ⟨b, o + j, none⟩) e2).trans (e3 j hj)⟩
                  have kr := fun W h => HR.out W h
                  have kd := fun W h => HD.out W h
                  have kQ := fun W => run_eq_State (stE ⟨0, false, false, false, true⟩ Z k).m (stE ⟨0, false, false, false, true⟩ Z k).m (stE ⟨0, false, false, false, true⟩ Z k).o (stE ⟨0, false, false, false, true⟩ Z k).a (stE ⟨0, false, false, false, true⟩ Z k).b (stE ⟨0, false, false, false, true⟩ Z k).e (stE ⟨0, false, false, false, true⟩ Z k).o (stE ⟨0, false, false, false, true⟩ Z k).a (stE ⟨0, false, false, false, true⟩ Z k).b (stE ⟨0, false, false, false, true⟩ Z k).e W
                  simp only [beq_self_eq_true, Bool.and_self] at kQ
                  generalize stE ⟨0, false, false, false, true⟩ Z k = y at *
                  obtain ⟨y0, y1, y2, y3, y4⟩ := y
                  simp only [St.val] at kr
                  generalize refE ⟨0, false, false, false, true⟩ Z k = rf at *
                  generalize rideE ⟨0, false, false, false, true⟩ Z k = rd at *
                  clear hZl hy0 HI HO HE HR HD
                  go_wp2_with fail
                  refine (impl_FirstState _).mono ?_
                  rintro e w5 ⟨rfl, hb5⟩
                  have hO5 := hO.below hb5
                  have hB5 := hB.trans (hb5.mono (Nat.le_of_lt hl))
                  have hZ5 := hZe.below hb5
                  have hl5 := hO5.lt
                  clear hO hB hl hZe hb5
                  go_wp2_with fail
                  refine (kr _ hZ5).mono ?_
                  rintro e w6 ⟨rfl, hb6⟩
                  have hO6 := hO5.below hb6
                  have hB6 := hB5.trans (hb6.mono (Nat.le_of_lt hl5))
                  have hZ6 := hZ5.below hb6
                  have hl6 := hO6.lt
                  clear hO5 hB5 hl5 hZ5 hb6 kr
                  go_wp2_with fail
                  have hV6 := StAt.made w6 25 y0 y1 y2 y3 y4
                  have bA : Below w6.heap.size w6 (w6.alloc (Obj.cells #[.int .i64 y0, .bool y1, .bool y2, .bool y3, .bool y4] 25)) := Below.alloc (Below.refl _ _) (Nat.le_refl _) _
                  replace hO6 := hO6.below bA
                  replace hB6 := hB6.trans (bA.mono (Nat.le_of_lt hl6))
                  replace hZ6 := hZ6.below bA
                  replace hl6 := hO6.lt
                  clear bA
                  generalize w6.heap.size = V at *
                  generalize w6.alloc (Obj.cells #[.int .i64 y0, .bool y1, .bool y2, .bool y3, .bool y4] 25) = w6' at *
                  refine (impl_FirstState _).mono ?_
                  rintro e w7 ⟨rfl, hb7⟩
                  have hO7 := hO6.below hb7
                  have hV7 := hV6.below hb7
                  have hB7 := hB6.trans (hb7.mono (Nat.le_of_lt hl6))
                  have hZ7 := hZ6.below hb7
                  have hl7 := hO7.lt
                  clear hO6 hB6 hl6 hZ6 hb7
                  go_wp2_with fail
                  refine (kd _ hZ7).mono ?_
                  rintro e w8 ⟨rfl, hb8⟩
                  have hO8 := hO7.below hb8
                  have hV8 := hV7.below hb8
                  have hB8 := hB7.trans (hb8.mono (Nat.le_of_lt hl7))
                  have hl8 := hO8.lt
                  clear hO7 hB7 hl7 hZ7 hb8 kd
                  have p0 := hO8.c0
                  have p1 := hO8.c1
                  have p2 := hO8.c2
                  have p3 := hO8.c3
                  have p4 := hO8.c4
                  have q0 := hV8.c0
                  have q1 := hV8.c1
                  have q2 := hV8.c2
                  have q3 := hV8.c3
                  have q4 := hV8.c4
                  dsimp only at p0 p1 p2 p3 p4 q0 q1 q2 q3 q4
                  go_wp2_with fail
                  go_returns
                  exact ⟨rfl, (hBW.out).trans (hB8.mono HG)⟩
  · have hor : (decide (1048576 < n0) || decide (1048576 < n1)) = true := by
      rw [Bool.or_eq_true, decide_eq_true_eq, decide_eq_true_eq]; omega
    rw [hor] at kl
    go_enter Try.func3, Try.ntmps3
    go_wp2_with (go_at_call 4; (with_reducible refine (kl _).mono ?_); rintro e w' ⟨rfl, rfl⟩)
    go_returns
    exact ⟨rfl, Below.refl _ _⟩

end Go.Proofs.Ytccejaneammplaa
