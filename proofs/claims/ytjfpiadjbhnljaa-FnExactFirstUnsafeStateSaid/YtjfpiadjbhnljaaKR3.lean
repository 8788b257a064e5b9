/-
  Contracts: the states that are found from a state.
-/
import Derived.Test.YtjfpiadjbhnljaaKQ3
import Derived.Test.YtjfpiadjbhnljaaKG2
namespace Go.Proofs.Ytjfpiadjbhnljaa
open Go.RowKit
set_option linter.unusedVariables false
set_option linter.unusedSimpArgs false


theorem State_info : (Try.prog.info? 23).map (fun i => (i.zero, i.size, i.bytes)) = some (some (.agg #[.int .i64 0, .bool false, .bool false, .bool false, .bool false]), 5, 16) := by kernel_rfl
theorem Move_info : (Try.prog.info? 79).map (fun i => (i.zero, i.size, i.bytes)) = some (some (.agg #[.int .i64 0, .int .i64 0, .int .i64 0]), 3, 24) := by kernel_rfl
theorem StsOf.snoc {B : Nat} {w : World} {v : Value} {L : List St} {y : St} (h : w.ownsRow B 23 5 v (L.length + 1) (L.flatMap St.cellsL ++ y.cellsL)) : StsOf B w v (L ++ [y]) := by
  unfold StsOf
  rw [List.length_append, List.flatMap_append]
  simpa using h
theorem StsOf.made {B : Nat} {w : World} (h : B ≤ w.heap.size) (m : Int) (o a b e : Bool) : StsOf B (w.alloc (.cells #[.int .i64 m, .bool o, .bool a, .bool b, .bool e] 23)) (.slice (some ⟨w.heap.size, 0, none⟩) 1 1) [⟨m, o, a, b, e⟩] :=
  World.ownsRow_lit w #[.int .i64 m, .bool o, .bool a, .bool b, .bool e] 1 h (by decide) rfl
theorem cells5 {w : World} {g : Nat} {x : St} (c0 : w.cell? ⟨g, 0, none⟩ = some (.int .i64 x.m)) (c1 : w.cell? ⟨g, 1, none⟩ = some (.bool x.o)) (c2 : w.cell? ⟨g, 2, none⟩ = some (.bool x.a)) (c3 : w.cell? ⟨g, 3, none⟩ = some (.bool x.b)) (c4 : w.cell? ⟨g, 4, none⟩ = some (.bool x.e)) :
    ∀ j u, x.cellsL[j]? = some u → w.cell? ⟨g, j, none⟩ = some u := by
  intro j u hj
  rcases j with _ | _ | _ | _ | _ | j
  · rw [← hj]; exact c0
  · rw [← hj]; exact c1
  · rw [← hj]; exact c2
  · rw [← hj]; exact c3
  · rw [← hj]; exact c4
  · simp [St.cellsL] at hj
theorem ownsRow_below {w w' : World} {B : Nat} {e : TypeId} {sz n : Nat} {v : Value} {xs : List Value} (h : w.ownsRow B e sz v n xs) (hb : Below w.heap.size w w') : w'.ownsRow B e sz v n xs :=
  World.ownsRow.kept (row := none) h ⟨hb.os, hb.tape, hb.output, hb.size, fun k hk _ => hb.block k hk⟩ (by cases hv : v.ownBlock <;> simp)
theorem cells3 {w : World} {g : Nat} {x y z : Value} (c0 : w.cell? ⟨g, 0, none⟩ = some x) (c1 : w.cell? ⟨g, 1, none⟩ = some y) (c2 : w.cell? ⟨g, 2, none⟩ = some z) : ∀ j u, [x, y, z][j]? = some u → w.cell? ⟨g, j, none⟩ = some u := by
  intro j u hj
  rcases j with _ | _ | _ | j
  · rw [← hj]; exact c0
  · rw [← hj]; exact c1
  · rw [← hj]; exact c2
  · simp at hj
theorem one3 (x y z : Int) : ∀ u ∈ [Value.int .i64 x, .int .i64 y, .int .i64 z], u.oneCell' = true := by
  intro u hu
  simp only [List.mem_cons, List.not_mem_nil, or_false] at hu
  rcases hu with rfl | rfl | rfl <;> rfl
/-- Behind an append to one row the row of another kind stands as it stood. -/
theorem ownsRow_beside {w w' : World} {B1 B2 : Nat} {e1 e2 : TypeId} {s1 s2 n1 n2 : Nat} {v1 v2 : Value} {x1 x2 : List Value} (h1 : w.ownsRow B1 e1 s1 v1 n1 x1) (h2 : w.ownsRow B2 e2 s2 v2 n2 x2) (he : e1 ≠ e2)
    (k : ∀ b, b < w.heap.size → v1.ownBlock ≠ some b → w'.heap[b]? = w.heap[b]?) : w'.ownsRow B2 e2 s2 v2 n2 x2 :=
  ownsRow_blk h2 fun g hg => k g (World.ownsRow.lt h2 g hg).2 (ownsRow_apart h1 h2 he g hg)
theorem one5 (x : St) : ∀ u ∈ x.cellsL, u.oneCell' = true := by
  intro u hu
  simp only [St.cellsL, List.mem_cons, List.not_mem_nil, or_false] at hu
  rcases hu with rfl | rfl | rfl | rfl | rfl <;> rfl
set_option maxHeartbeats 4000000 in
theorem impl_reached (m : Int) (o a b e : Bool) (w : World) (hx : inB m 0 4 = true) : Calls Try.prog 36 #[.agg #[.int .i64 m, .bool o, .bool a, .bool b, .bool e]] w
    fun e' w' => ∃ A C mv, e' = .returned (.tuple #[.slice A (reachS ⟨m, o, a, b, e⟩).length C, mv]) ∧ StsAt w' A (reachS ⟨m, o, a, b, e⟩) ∧ Below w.heap.size w w' := by
  obtain ⟨x, hxx⟩ : ∃ x : St, x = ⟨m, o, a, b, e⟩ := ⟨_, rfl⟩
  have hok : x.ok = true := by rw [hxx]; exact hx
  rw [← hxx]
  have HG := Lib.hid (fun k => reach_good hok k)
  have HE := Lib.hid (fun k h hk => reach_end (x := x) (k := k) hok h hk)
  have H0 := Lib.hid (show reachK x 0 = [⟨m, o, a, b, e⟩] by rw [← hxx]; rfl)
  have HS := Lib.hid (fun (y : St) k h => (reach_succ (x := x) (y := y) (k := k) h).trans (grow_all y _ 9))
  clear hxx hx hok
  go_enter Try.func36, Try.ntmps36
  go_upto_region 1 with fail
  (have Q0 : (w.alloc (Obj.cells #[.int .i64 m, .bool o, .bool a, .bool b, .bool e] 23)).cell? ⟨w.heap.size, 0, none⟩ = some (.int .i64 m) := (by go_simp); have Q1 : (w.alloc (Obj.cells #[.int .i64 m, .bool o, .bool a, .bool b, .bool e] 23)).cell? ⟨w.heap.size, 1, none⟩ = some (.bool o) := (by go_simp); have Q2 : (w.alloc (Obj.cells #[.int .i64 m, .bool o, .bool a, .bool b, .bool e] 23)).cell? ⟨w.heap.size, 2, none⟩ = some (.bool a) := (by go_simp); have Q3 : (w.alloc (Obj.cells #[.int .i64 m, .bool o, .bool a, .bool b, .bool e] 23)).cell? ⟨w.heap.size, 3, none⟩ = some (.bool b) := (by go_simp); have Q4 : (w.alloc (Obj.cells #[.int .i64 m, .bool o, .bool a, .bool b, .bool e] 23)).cell? ⟨w.heap.size, 4, none⟩ = some (.bool e) := (by go_simp); have Z5 : w.heap.size < (w.alloc (Obj.cells #[.int .i64 m, .bool o, .bool a, .bool b, .bool e] 23)).heap.size := (by first | omega | (simp; done) | (simp; omega)); have BB : Below w.heap.size w (w.alloc (Obj.cells #[.int .i64 m, .bool o, .bool a, .bool b, .bool e] 23)) := (by go_grown); generalize w.alloc (Obj.cells #[.int .i64 m, .bool o, .bool a, .bool b, .bool e] 23) = w2 at *)
  go_upto_region 3 with fail
  have hS0 : StsOf w2.heap.size (w2.alloc (Obj.cells #[.int .i64 m, .bool o, .bool a, .bool b, .bool e] 23)) (.slice (some ⟨w2.heap.size, 0, none⟩) 1 1) (reachK x 0) := by rw [H0.out]; exact StsOf.made (Nat.le_refl _) m o a b e
  have hB0 : Below w2.heap.size w2 (w2.alloc (Obj.cells #[.int .i64 m, .bool o, .bool a, .bool b, .bool e] 23)) := Below.alloc (Below.refl _ _) (Nat.le_refl _) _
  generalize w2.alloc (Obj.cells #[.int .i64 m, .bool o, .bool a, .bool b, .bool e] 23) = w3 at *
  clear Q0 Q1 Q2 Q3 Q4
  go_wp2
  go_loopw [4, 5, 6] (fun lv mv iv wr => ∃ k : Nat, k ≤ 80 ∧ iv = .int .i64 k ∧ StsOf w2.heap.size wr lv (reachK x k) ∧ (∃ n xs, n ≤ 9 * k ∧ wr.ownsRow w2.heap.size 79 3 mv n xs) ∧ Below w2.heap.size w2 wr ∧ k ≤ (reachK x k).length) (fun _ _ iv _ => (80 - intOf iv).toNat)
  case atStart => exact ⟨0, by omega, rfl, hS0, ⟨0, [], by omega, World.ownsRow_nil _ _ _ _⟩, hB0, by omega⟩
  case round =>
    clear hS0 hB0
    obtain ⟨k, hk, rfl, hS, ⟨n, xs, hn9, hM⟩, hB, hkl⟩ := hrel
    have hgood := HG.out k
    have hlen := hgood.len
    obtain ⟨A, C, rfl, hz⟩ := hS.at
    by_cases hlt : k < (reachK x k).length
    · obtain ⟨y, hy⟩ : ∃ y, (reachK x k)[k]? = some y := ⟨_, List.getElem?_eq_getElem hlt⟩
      have hsucc := HS.out y k hy
      have hyok := hgood.2 y (List.mem_of_getElem? hy)
      have HGL := Lib.hid (fun E i => hgood.grows hyok E i)
      have HAT := Lib.hid (fun E i => growL_at (x := y) hy E i)
      obtain ⟨b2, rfl, hb, hc⟩ := hz (by omega)
      obtain ⟨c0, c1, c2, c3, c4⟩ := hc k y hy
      have hq := hB.size
      have h0 : (0 : Int) ≤ (k : Int) := by omega
      have h1 : (k : Int) < ((reachK x k).length : Int) := by omega
      have hev := fun W => impl_allowedEvents_app y.m y.o y.a y.b y.e W
      have hE9 : (allowA y 9).length ≤ 9 := accB_len _ _ _
      have hE0 : growL y (reachK x k) ((allowA y 9).take 0) = reachK x k := rfl
      have hE1 : growL y (reachK x k) ((allowA y 9).take (allowA y 9).length) = reachK x (k + 1) := by rw [List.take_length, hsucc]
      have HSU := Lib.hid hsucc
      have HE1 := Lib.hid hE1
      have HE0 := Lib.hid hE0
      rw [show allowA ⟨y.m, y.o, y.a, y.b, y.e⟩ 9 = allowA y 9 from rfl] at hev
      clear hsucc hE1 hE0 hc hgood
      generalize reachK x k = L0 at *
      generalize allowA y 9 = E at *
      go_wp2_with (go_at_call 42; (with_reducible refine (hev _).mono ?_); rintro e' w4 ⟨ev, rfl, hEv, hb4⟩; obtain ⟨ae, ce, rfl, hEo⟩ := hEv.out; have hS4 := hS.below hb4; have hM4 := ownsRow_below hM hb4; have hB4 := hB.trans (hb4.mono hq); have hEv4 := hEv.low hq; clear hb4 hEv hEo)
      clear hev hS hM hB hb c0 c1 c2 c3 c4
      go_loopw [4, 5, 25] (fun lv mv iv wx => ∃ i : Nat, i ≤ E.length ∧ iv = .int .i64 i ∧ StsOf w2.heap.size wx lv (growL y L0 (E.take i)) ∧ (∃ n' xs', n' ≤ 9 * k + i ∧ wx.ownsRow w2.heap.size 79 3 mv n' xs') ∧ AppOf w2.heap.size wx (.slice ae E.length ce) E ∧ Below w2.heap.size w2 wx) (fun _ _ iv _ => E.length - (intOf iv).toNat)
      case atStart => exact ⟨0, by omega, rfl, by rw [HE0.out]; exact hS4, ⟨n, xs, by omega, hM4⟩, hEv4, hB4⟩
      case round =>
        clear hS4 hM4 hEv4 hB4
        obtain ⟨i, hi, rfl, hS, ⟨n', xs', hn', hM⟩, hEv, hB⟩ := hrel
        have hq := hB.size
        by_cases hil : i < E.length
        · obtain ⟨ev, hei⟩ : ∃ ev, E[i]? = some ev := ⟨_, List.getElem?_eq_getElem hil⟩
          have HST := Lib.hid (growL_take (x := y) (L := L0) hei)
          have hy1 := HAT.out E i
          have hgood := HGL.out E i
          have hlen1 := hgood.len
          obtain ⟨A1, C1, rfl, hz1⟩ := hS.at
          have hgl := growL_len y L0 E i
          generalize growL y L0 (E.take i) = L1 at *
          obtain ⟨b1, rfl, hb1, hc1⟩ := hz1 (by omega)
          obtain ⟨c0, c1, c2, c3, c4⟩ := hc1 k y hy1
          obtain ⟨ae', ce', eae, hEo⟩ := hEv.out
          injection eae with eae _ ecap
          subst eae
          subst ecap
          obtain ⟨ge, rfl, _, _, hge, hec⟩ := hEo (by omega)
          have cev := (hec i hil).1
          dsimp only at cev
          rw [List.getD_eq_getElem?_getD, hei] at cev
          simp only [Option.getD_some] at cev
          have i0 : (0 : Int) ≤ (i : Int) := by omega
          have i1 : (i : Int) < (E.length : Int) := by omega
          have k1 : (k : Int) < (L1.length : Int) := by omega
          have ka := fun W => impl_after y.m y.o y.a y.b y.e ev W
          rw [show (⟨y.m, y.o, y.a, y.b, y.e⟩ : St) = y from rfl] at ka
          clear hec hc1 hz1 hEo
          generalize after y ev = z at *
          obtain ⟨z0, z1, z2, z3, z4⟩ := z
          simp only [St.val] at ka
          have kI := fun W h => impl_Index_State (some ⟨b1, 0, none⟩) C1 L1 z0 z1 z2 z3 z4 W h (by omega)
          rw [show idx (fun j => L1.getD j St.zero == ⟨z0, z1, z2, z3, z4⟩) L1.length = idxS L1 ⟨z0, z1, z2, z3, z4⟩ from rfl] at kI
          go_upto_region 10 with (go_at_call 46; (with_reducible refine (ka _).mono ?_); rintro e' w5 ⟨rfl, hb⟩; have hS5 := hS.below hb; have hM5 := ownsRow_below hM hb; have hE5 := hEv.below hb; have hB5 := hB.trans (hb.mono hq); clear hb)
          have hb5 : Below w5.heap.size w5 (w5.alloc (Obj.cells #[.int .i64 z0, .bool z1, .bool z2, .bool z3, .bool z4] 23)) := Below.alloc (Below.refl _ _) (Nat.le_refl _) _
          have x6 := own_new (lo := w5.heap.size) (hi := w5.heap.size + 1) w5 #[.int .i64 z0, .bool z1, .bool z2, .bool z3, .bool z4] 23 (Nat.le_refl _) (by omega)
          generalize w5.alloc (Obj.cells #[.int .i64 z0, .bool z1, .bool z2, .bool z3, .bool z4] 23) = w6 at *
          have d0 : w6.cell? ⟨w5.heap.size, 0, none⟩ = some (.int .i64 z0) := x6.at (show 0 < 5 by decide)
          have d1 : w6.cell? ⟨w5.heap.size, 1, none⟩ = some (.bool z1) := x6.at (show 1 < 5 by decide)
          have d2 : w6.cell? ⟨w5.heap.size, 2, none⟩ = some (.bool z2) := x6.at (show 2 < 5 by decide)
          have d3 : w6.cell? ⟨w5.heap.size, 3, none⟩ = some (.bool z3) := x6.at (show 3 < 5 by decide)
          have d4 : w6.cell? ⟨w5.heap.size, 4, none⟩ = some (.bool z4) := x6.at (show 4 < 5 by decide)
          have l6 : w5.heap.size < w6.heap.size := x6.block (by simp)
          have hS6 := hS5.below hb5
          have hM6 := ownsRow_below hM5 hb5
          have hEv6 := hE5.below hb5
          have hB6 := hB5.trans (hb5.mono hB5.size)
          obtain ⟨A6, C6, e6, hz6⟩ := hS6.at
          injection e6 with e6 _ e6'
          subst e6
          subst e6'
          clear hS5 hM5 hE5 hB5 hb5 x6 hS hM hEv hB c0 c1 c2 c3 c4 ka
          by_cases hin : (⟨z0, z1, z2, z3, z4⟩ : St) ∈ L1
          · obtain ⟨I0, I1⟩ := idxS_in hin
            have HST2 := Lib.hid (HST.out.trans (if_pos hin))
            generalize idxS L1 ⟨z0, z1, z2, z3, z4⟩ = I at *
            have I2 : decide (I < 0) = false := decide_eq_false (by omega)
            clear hin
            go_wp2_with (first | (go_at_call 57; (with_reducible refine (kI _ hz6).mono ?_); rintro e' w7 ⟨rfl, hb⟩; have hS7 := hS6.below hb; have hM7 := ownsRow_below hM6 hb; have hE7 := hEv6.below hb; have hB7 := hB6.trans (hb.mono hB6.size); have zc := bkeep hb; have hq7 := hb.size; clear hb) | (at_builtin; refine app_cells 58 79 _ 3 24 Move_info Try.underlying58 rfl (by decide) (by decide) _ rfl _ _ rfl w2.heap.size _ _ _ rfl (World.ownsRow.alloc hM7 _) _ _ [.int .i64 k, .int .i64 ev, .int .i64 I] rfl rfl (cells3 (by go_cell) (by go_cell) (by go_cell)) (one3 _ _ _) (by omega) (by have := hB7.size; simp; omega) ?_; intro mv' w8 hM8 hb8 hk8))
            go_roundw
            case rel => exact ⟨i + 1, by omega, by go_num, by rw [HST2.out]; exact ownsRow_beside (World.ownsRow.alloc hM7 _) (World.ownsRow.alloc hS7 _) (by decide) hk8, ⟨n' + 1, _, by omega, hM8⟩, ownsRow_beside (World.ownsRow.alloc hM7 _) (World.ownsRow.alloc hE7 _) (by decide) hk8, (Below.alloc hB7 hB7.size _).trans hb8⟩
            case measure => simp [intOf]; omega
          · have I2 := idxS_out hin
            have HST2 := Lib.hid (HST.out.trans (if_neg hin))
            rw [I2] at kI
            clear hin I2
            go_wp2_with (first | (go_at_call 57; (with_reducible refine (kI _ hz6).mono ?_); rintro e' w7 ⟨rfl, hb⟩; have hS7 := hS6.below hb; have hM7 := ownsRow_below hM6 hb; have hE7 := hEv6.below hb; have hB7 := hB6.trans (hb.mono hB6.size); have zc := bkeep hb; have hq7 := hb.size; clear hb) | (at_builtin; refine app_cells 56 23 _ 5 16 State_info Try.underlying56 rfl (by decide) (by decide) _ rfl _ _ rfl w2.heap.size _ _ _ rfl (World.ownsRow.alloc hS7 _) _ _ (St.cellsL ⟨z0, z1, z2, z3, z4⟩) rfl rfl (cells5 (by go_cell) (by go_cell) (by go_cell) (by go_cell) (by go_cell)) (one5 _) (by omega) (by have := hB7.size; simp; omega) ?_; intro lv' w8 hL8 hb8 hk8; have hM8 := ownsRow_beside (World.ownsRow.alloc hS7 _) (World.ownsRow.alloc hM7 _) (by decide) hk8; have hE8 := ownsRow_beside (World.ownsRow.alloc hS7 _) (World.ownsRow.alloc hE7 _) (by decide) hk8; have hB8 := (Below.alloc hB7 hB7.size _).trans hb8; have hS8 := StsOf.snoc hL8; clear hL8 hk8 hb8) | (at_builtin; refine app_cells 58 79 _ 3 24 Move_info Try.underlying58 rfl (by decide) (by decide) _ rfl _ _ rfl w2.heap.size _ _ _ rfl (World.ownsRow.alloc hM8 _) _ _ [.int .i64 k, .int .i64 ev, .int .i64 L1.length] rfl rfl (cells3 (by go_cell) (by go_cell) (by go_cell)) (one3 _ _ _) (by omega) (by have := hB8.size; simp; omega) ?_; intro mv' w9 hM9 hb9 hk9))
            go_roundw
            case rel => exact ⟨i + 1, by omega, by go_num, by rw [HST2.out]; exact ownsRow_beside (World.ownsRow.alloc hM8 _) (World.ownsRow.alloc hS8 _) (by decide) hk9, ⟨n' + 1, _, by omega, hM9⟩, ownsRow_beside (World.ownsRow.alloc hM8 _) (World.ownsRow.alloc hE8 _) (by decide) hk9, (Below.alloc hB8 hB8.size _).trans hb9⟩
            case measure => simp [intOf]; omega
        · obtain rfl : i = E.length := by omega
          rw [HE1.out] at hS
          have hl2 : k + 1 ≤ (reachK x (k + 1)).length := by
            have := growL_len y L0 E E.length
            rw [HE1.out] at this
            omega
          go_wp2
          go_roundw
          case rel => exact ⟨k + 1, by omega, by go_num, hS, ⟨n', xs', by omega, hM⟩, hB, hl2⟩
          case measure => simp [intOf]; omega
    · have hkk : (reachK x k).length = k := by omega
      have he := HE.out k (by omega) hk
      rw [he] at hS hkl hlt hz ⊢
      have HZ := Lib.hid hz
      clear hz hkk
      go_wp2
      go_returns
      exact ⟨_, _, _, rfl, HZ.out, BB.trans (hB.mono BB.size)⟩

set_option maxHeartbeats 4000000 in
theorem spec_l15Reached (m : Int) (o a b e : Bool) (w : World) (hx : inB m 0 4 = true) : Calls Try.prog 35 #[.agg #[.int .i64 m, .bool o, .bool a, .bool b, .bool e]] w
    fun e' w' => ∃ A C, e' = .returned (.slice A (reachS ⟨m, o, a, b, e⟩).length C) ∧ StsAt w' A (reachS ⟨m, o, a, b, e⟩) ∧ Below w.heap.size w w' := by
  obtain ⟨x, hxx⟩ : ∃ x : St, x = ⟨m, o, a, b, e⟩ := ⟨_, rfl⟩
  have hok : x.ok = true := by rw [hxx]; exact hx
  rw [← hxx]
  have HG := Lib.hid (fun k => reach_good hok k)
  have HE := Lib.hid (fun k h hk => reach_end (x := x) (k := k) hok h hk)
  have H0 := Lib.hid (show reachK x 0 = [⟨m, o, a, b, e⟩] by rw [← hxx]; rfl)
  have HS := Lib.hid (fun (y : St) k h => reach_succ (x := x) (y := y) (k := k) h)
  clear hxx hx hok
  go_enter Try.func35, Try.ntmps35
  go_upto_region 1 with fail
  (have Q0 : (w.alloc (Obj.cells #[.int .i64 m, .bool o, .bool a, .bool b, .bool e] 23)).cell? ⟨w.heap.size, 0, none⟩ = some (.int .i64 m) := (by go_simp); have Q1 : (w.alloc (Obj.cells #[.int .i64 m, .bool o, .bool a, .bool b, .bool e] 23)).cell? ⟨w.heap.size, 1, none⟩ = some (.bool o) := (by go_simp); have Q2 : (w.alloc (Obj.cells #[.int .i64 m, .bool o, .bool a, .bool b, .bool e] 23)).cell? ⟨w.heap.size, 2, none⟩ = some (.bool a) := (by go_simp); have Q3 : (w.alloc (Obj.cells #[.int .i64 m, .bool o, .bool a, .bool b, .bool e] 23)).cell? ⟨w.heap.size, 3, none⟩ = some (.bool b) := (by go_simp); have Q4 : (w.alloc (Obj.cells #[.int .i64 m, .bool o, .bool a, .bool b, .bool e] 23)).cell? ⟨w.heap.size, 4, none⟩ = some (.bool e) := (by go_simp); have Z5 : w.heap.size < (w.alloc (Obj.cells #[.int .i64 m, .bool o, .bool a, .bool b, .bool e] 23)).heap.size := (by first | omega | (simp; done) | (simp; omega)); have BB : Below w.heap.size w (w.alloc (Obj.cells #[.int .i64 m, .bool o, .bool a, .bool b, .bool e] 23)) := (by go_grown); generalize w.alloc (Obj.cells #[.int .i64 m, .bool o, .bool a, .bool b, .bool e] 23) = w2 at *)
  go_upto_region 2 with fail
  have hS0 : StsOf w2.heap.size (w2.alloc (Obj.cells #[.int .i64 m, .bool o, .bool a, .bool b, .bool e] 23)) (.slice (some ⟨w2.heap.size, 0, none⟩) 1 1) (reachK x 0) := by rw [H0.out]; exact StsOf.made (Nat.le_refl _) m o a b e
  have hB0 : Below w2.heap.size w2 (w2.alloc (Obj.cells #[.int .i64 m, .bool o, .bool a, .bool b, .bool e] 23)) := Below.alloc (Below.refl _ _) (Nat.le_refl _) _
  generalize w2.alloc (Obj.cells #[.int .i64 m, .bool o, .bool a, .bool b, .bool e] 23) = w3 at *
  clear Q0 Q1 Q2 Q3 Q4
  go_wp2
  go_loopw [3, 4] (fun lv iv wr => ∃ k : Nat, k ≤ 80 ∧ iv = .int .i64 k ∧ StsOf w2.heap.size wr lv (reachK x k) ∧ Below w2.heap.size w2 wr ∧ k ≤ (reachK x k).length) (fun _ iv _ => (80 - intOf iv).toNat)
  case atStart => exact ⟨0, by omega, rfl, hS0, hB0, by omega⟩
  case round =>
    clear hS0 hB0
    obtain ⟨k, hk, rfl, hS, hB, hkl⟩ := hrel
    have hgood := HG.out k
    have hlen := hgood.len
    obtain ⟨A, C, rfl, hz⟩ := hS.at
    by_cases hlt : k < (reachK x k).length
    · obtain ⟨y, hy⟩ : ∃ y, (reachK x k)[k]? = some y := ⟨_, List.getElem?_eq_getElem hlt⟩
      have hsucc := HS.out y k hy
      have hyok := hgood.2 y (List.mem_of_getElem? hy)
      have HGL := Lib.hid (fun i => hgood.grow hyok i)
      have HAT := Lib.hid (fun i => grow_at (x := y) hy i)
      have h0 : (0 : Int) ≤ (k : Int) := by omega
      have h1 : (k : Int) < ((reachK x k).length : Int) := by omega
      have HSU := Lib.hid hsucc
      have hq := hB.size
      clear hsucc hgood hz
      generalize reachK x k = L0 at *
      go_wp2
      go_loopw [3, 5] (fun lv iv wx => ∃ j : Nat, j ≤ 9 ∧ iv = .int .i64 ((j : Int) + 1) ∧ StsOf w2.heap.size wx lv (growE y L0 j) ∧ Below w2.heap.size w2 wx) (fun _ iv _ => (10 - intOf iv).toNat)
      case atStart => exact ⟨0, by omega, rfl, hS, hB⟩
      case round =>
        clear hS hB
        obtain ⟨j, hj, rfl, hS, hB⟩ := hrel
        have hq := hB.size
        have hy1 := HAT.out j
        have hgood := HGL.out j
        have hlen1 := hgood.len
        have hgl := grow_len y L0 j
        by_cases hjl : j < 9
        · have HNO := Lib.hid (fun h => grow_no (x := y) (L := L0) (j := j) h)
          have HIN := Lib.hid (fun h h2 => grow_in (x := y) (L := L0) (j := j) h h2)
          have HNE := Lib.hid (fun h h2 => grow_new (x := y) (L := L0) (j := j) h h2)
          obtain ⟨A1, C1, rfl, hz1⟩ := hS.at
          generalize growE y L0 j = L1 at *
          obtain ⟨b1, rfl, hb1, hc1⟩ := hz1 (by omega)
          obtain ⟨c0, c1, c2, c3, c4⟩ := hc1 k y hy1
          have k1 : (k : Int) < (L1.length : Int) := by omega
          have ka := fun W => spec_l13Next y.m y.o y.a y.b y.e ((j : Int) + 1) W (by omega) (by omega)
          rw [show (⟨y.m, y.o, y.a, y.b, y.e⟩ : St) = y from rfl] at ka
          clear hc1 hz1
          cases hal : allowed y ((j : Int) + 1)
          · rw [hal] at ka
            have HST2 := Lib.hid (HNO.out hal)
            clear hal
            generalize step y ((j : Int) + 1) = z at *
            obtain ⟨z0, z1, z2, z3, z4⟩ := z
            simp only [St.val] at ka
            go_wp2_with (go_at_call 48; (with_reducible refine (ka _).mono ?_); rintro e' w5 ⟨rfl, hb⟩; have hS5 := hS.below hb; have hB5 := hB.trans (hb.mono hq); clear hb)
            go_roundw
            case rel => exact ⟨j + 1, by omega, by go_num, by rw [HST2.out]; exact hS5.below (Below.alloc (Below.refl _ _) (Nat.le_refl _) _), Below.alloc hB5 hB5.size _⟩
            case measure => simp [intOf]; omega
          · rw [hal, step_0 hal] at ka
            have HIN := Lib.hid (fun h2 => HIN.out hal h2)
            have HNE := Lib.hid (fun h2 => HNE.out hal h2)
            clear hal
            generalize after y ((j : Int) + 1) = z at *
            obtain ⟨z0, z1, z2, z3, z4⟩ := z
            simp only [St.val] at ka
            have kI := fun W h => spec_l15Find (some ⟨b1, 0, none⟩) C1 L1 z0 z1 z2 z3 z4 W h (by omega)
            rw [show idx (fun j => L1.getD j St.zero == ⟨z0, z1, z2, z3, z4⟩) L1.length = idxS L1 ⟨z0, z1, z2, z3, z4⟩ from rfl] at kI
            go_upto_region 9 with (go_at_call 48; (with_reducible refine (ka _).mono ?_); rintro e' w5 ⟨rfl, hb⟩; have hS5 := hS.below hb; have hB5 := hB.trans (hb.mono hq); clear hb)
            have hb5 : Below w5.heap.size w5 (w5.alloc (Obj.cells #[.int .i64 z0, .bool z1, .bool z2, .bool z3, .bool z4] 23)) := Below.alloc (Below.refl _ _) (Nat.le_refl _) _
            have x6 := own_new (lo := w5.heap.size) (hi := w5.heap.size + 1) w5 #[.int .i64 z0, .bool z1, .bool z2, .bool z3, .bool z4] 23 (Nat.le_refl _) (by omega)
            generalize w5.alloc (Obj.cells #[.int .i64 z0, .bool z1, .bool z2, .bool z3, .bool z4] 23) = w6 at *
            have d0 : w6.cell? ⟨w5.heap.size, 0, none⟩ = some (.int .i64 z0) := x6.at (show 0 < 5 by decide)
            have d1 : w6.cell? ⟨w5.heap.size, 1, none⟩ = some (.bool z1) := x6.at (show 1 < 5 by decide)
            have d2 : w6.cell? ⟨w5.heap.size, 2, none⟩ = some (.bool z2) := x6.at (show 2 < 5 by decide)
            have d3 : w6.cell? ⟨w5.heap.size, 3, none⟩ = some (.bool z3) := x6.at (show 3 < 5 by decide)
            have d4 : w6.cell? ⟨w5.heap.size, 4, none⟩ = some (.bool z4) := x6.at (show 4 < 5 by decide)
            have l6 : w5.heap.size < w6.heap.size := x6.block (by simp)
            have hS6 := hS5.below hb5
            have hB6 := hB5.trans (hb5.mono hB5.size)
            obtain ⟨A6, C6, e6, hz6⟩ := hS6.at
            injection e6 with e6 _ e6'
            subst e6
            subst e6'
            clear hS5 hB5 hb5 x6 hS hB c0 c1 c2 c3 c4 ka
            by_cases hin : (⟨z0, z1, z2, z3, z4⟩ : St) ∈ L1
            · obtain ⟨I0, I1⟩ := idxS_in hin
              have HST2 := Lib.hid (HIN.out hin)
              generalize idxS L1 ⟨z0, z1, z2, z3, z4⟩ = I at *
              have I2 : decide (I < 0) = false := decide_eq_false (by omega)
              clear hin
              go_wp2_with (go_at_call 56; (with_reducible refine (kI _ hz6).mono ?_); rintro e' w7 ⟨rfl, hb⟩; have hS7 := hS6.below hb; have hB7 := hB6.trans (hb.mono hB6.size); have zc := bkeep hb; have hq7 := hb.size; clear hb)
              go_roundw
              case rel => exact ⟨j + 1, by omega, by go_num, by rw [HST2.out]; exact hS7, hB7⟩
              case measure => simp [intOf]; omega
            · have I2 := idxS_out hin
              have HST2 := Lib.hid (HNE.out hin)
              rw [I2] at kI
              clear hin I2
              go_wp2_with (first | (go_at_call 56; (with_reducible refine (kI _ hz6).mono ?_); rintro e' w7 ⟨rfl, hb⟩; have hS7 := hS6.below hb; have hB7 := hB6.trans (hb.mono hB6.size); have zc := bkeep hb; have hq7 := hb.size; clear hb) | (at_builtin; refine app_cells 56 23 _ 5 16 State_info Try.underlying56 rfl (by decide) (by decide) _ rfl _ _ rfl w2.heap.size _ _ _ rfl (World.ownsRow.alloc hS7 _) _ _ (St.cellsL ⟨z0, z1, z2, z3, z4⟩) rfl rfl (cells5 (by go_cell) (by go_cell) (by go_cell) (by go_cell) (by go_cell)) (one5 _) (by omega) (by have := hB7.size; simp; omega) ?_; intro lv' w8 hL8 hb8 hk8; have hB8 := (Below.alloc hB7 hB7.size _).trans hb8; have hS8 := StsOf.snoc hL8; clear hL8 hk8 hb8))
              go_roundw
              case rel => exact ⟨j + 1, by omega, by go_num, by rw [HST2.out]; exact hS8, hB8⟩
              case measure => simp [intOf]; omega
        · obtain rfl : j = 9 := by omega
          rw [← HSU.out] at hS hgl
          go_wp2
          go_roundw
          case rel => exact ⟨k + 1, by omega, by go_num, hS, hB, by omega⟩
          case measure => simp [intOf]; omega
    · have hkk : (reachK x k).length = k := by omega
      have he := HE.out k (by omega) hk
      rw [he] at hS hkl hlt hz ⊢
      have HZ := Lib.hid hz
      clear hz hkk
      go_wp2
      go_returns
      exact ⟨_, _, rfl, HZ.out, BB.trans (hB.mono BB.size)⟩

end Go.Proofs.Ytjfpiadjbhnljaa
