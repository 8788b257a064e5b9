/-
  Contracts: speeds between passings.
-/
import Derived.Test.YtdhjnpjemaofoaaDoorKH
import Derived.Test.YtdhjnpjemaofoaaDoorKP
import Derived.Test.YtdhjnpjemaofoaaDoorAp
import Derived.Test.YtdhjnpjemaofoaaDoorM1
import Derived.Test.YtdhjnpjemaofoaaDoorQu
import Derived.Deep.DeepCutAuto
namespace Go.Proofs.YtdhjnpjemaofoaaDoor
open Go.RowKit
set_option linter.unusedVariables false
set_option linter.unusedSimpArgs false


set_option maxHeartbeats 4000000 in
theorem impl_speeds (a : Option Addr) (n c : Nat) (Z : Nat → Int) (a' : Option Addr) (m c' : Nat) (S T : Nat → Int) (w : World) (hz : IntsAt w a n Z) (hy : PassAt w a' m S T) (ok : passOk Z n S T m = true) :
    Calls Tryd.prog 49 #[.slice a n c, .slice a' m c'] w (RetRow (speedsA Z S T (m - 1)) w) := by
  obtain ⟨hr, h16, hg, h32⟩ := passOk_parts ok
  have hbd := fun j h => rises_bd (j := j) hr h
  have HB := Lib.hid hbd
  have HG := Lib.hid hg
  clear hr hbd hg ok
  go_enter Tryd.func49, Tryd.ntmps49
  go_wp2
  go_loopw [5, 6] (fun o i wr => ∃ j : Nat, (j = 0 ∨ j + 1 ≤ m) ∧ i = .int .i64 ((j : Int) + 1) ∧ AppOf w.heap.size wr o (speedsA Z S T j) ∧ Below w.heap.size w wr) (fun _ i _ => m - (intOf i).toNat)
  case atStart => exact ⟨0, by omega, rfl, AppOf.nil _ _, Below.refl _ _⟩
  case round =>
    obtain ⟨j, hj, rfl, hA, hB⟩ := hrel
    have hq := hB.size
    have hlen : (speedsA Z S T j).length ≤ 16777216 := by rw [speedsA_len]; omega
    by_cases hlt : j + 1 < m
    · obtain ⟨b, o, rfl, hb, hc⟩ := hy (by omega)
      obtain ⟨p0, p1, p2, p3⟩ := goodP_at HG.out (show j < m by omega)
      obtain ⟨q0, q1, q2, q3⟩ := goodP_at HG.out hlt
      have tt := (goodP_next HG.out hlt).1
      obtain ⟨bz, oz, rfl, hbz, hcz⟩ := hz (by omega)
      obtain ⟨c0, d0⟩ := hc j (by omega)
      obtain ⟨c1, d1⟩ := hc (j + 1) hlt
      have e0 := hcz (S j).toNat (by omega)
      have e1 := hcz (S (j + 1)).toNat (by omega)
      obtain ⟨f0, g0⟩ := HB.out (S j).toNat (by omega)
      obtain ⟨f1, g1⟩ := HB.out (S (j + 1)).toNat (by omega)
      replace c0 := (hB.cell (p := ⟨b, o + j * 2, none⟩) hb).trans c0
      replace d0 := (hB.cell (p := ⟨b, o + j * 2 + 1, none⟩) hb).trans d0
      replace c1 := (hB.cell (p := ⟨b, o + (j + 1) * 2, none⟩) hb).trans c1
      replace d1 := (hB.cell (p := ⟨b, o + (j + 1) * 2 + 1, none⟩) hb).trans d1
      replace e0 := (hB.cell (p := ⟨bz, oz + (S j).toNat, none⟩) hbz).trans e0
      replace e1 := (hB.cell (p := ⟨bz, oz + (S (j + 1)).toNat, none⟩) hbz).trans e1
      have hb1 : b < wr.heap.size := Nat.lt_of_lt_of_le hb hB.size
      have hb2 : bz < wr.heap.size := Nat.lt_of_lt_of_le hbz hB.size
      have i0 : (0 : Int) ≤ (j : Int) := by omega
      have i1 : (j : Int) + 1 < (m : Int) := by omega
      have i2 : (0 : Int) ≤ (j : Int) + 1 := by omega
      have i3 : (j : Int) < (m : Int) := by omega
      have i4 : IntKind.i64.wrap ((j : Int) + 1 - 1) = (j : Int) := by rw [IntWalk.i64_in _ (by omega)]; omega
      have i7 : IntKind.i64.wrap (j : Int) = (j : Int) := IntWalk.i64_in _ (by omega)
      have i6 : (j : Int) + 1 - 1 = (j : Int) := by omega
      have i5 : ((j : Int) + 1).toNat = j + 1 := by omega
      have HS := Lib.hid (speedsA_next Z S T j)
      have HV := Lib.hid (show spdV Z S T j = nearV (absV (Z (S (j + 1)).toNat - Z (S j).toNat)) (T (j + 1) - T j) from rfl)
      clear hc hcz hj
      generalize speedsA Z S T j = L at *
      generalize Z (S (j + 1)).toNat = z1 at *
      generalize Z (S j).toNat = z0 at *
      generalize T (j + 1) = t1 at *
      generalize T j = t0 at *
      generalize S (j + 1) = s1 at *
      generalize S j = s0 at *
      have w1 : IntKind.i64.wrap (z1 - z0) = z1 - z0 := IntWalk.i64_in _ (by omega)
      have w2 : IntKind.i64.wrap (-(z1 - z0)) = -(z1 - z0) := IntWalk.i64_in _ (by omega)
      have w3 : IntKind.i64.wrap (t1 - t0) = t1 - t0 := IntWalk.i64_in _ (by omega)
      obtain ⟨a0, a1⟩ := absV_bd (x := z1 - z0) (a := 4000000) (by omega) (by omega)
      have ka : ∀ W, Calls Tryd.prog 57 #[.int .i64 (z1 - z0)] W fun e w' => e = .returned (.int .i64 (absV (z1 - z0))) ∧ W = w' := fun W =>
        (impl_abs (z1 - z0) W (by omega) (by omega)).mono fun _ _ ⟨h, h'⟩ => ⟨h, h'.symm⟩
      have kn := fun W => impl_nearest (absV (z1 - z0)) (t1 - t0) W (by omega) (by omega) (by omega) (by omega)
      go_upto_region 5 with fail
      go_cut [7, 8] (fun p q W => ∃ g h : Nat, p = .pointer (some ⟨g, 0, none⟩) ∧ q = .pointer (some ⟨h, 0, none⟩) ∧ g < W.heap.size ∧ h < W.heap.size ∧ W.cell? ⟨g, 0, none⟩ = some (.int .i64 s0) ∧ W.cell? ⟨g, 1, none⟩ = some (.int .i64 t0) ∧ W.cell? ⟨h, 0, none⟩ = some (.int .i64 s1) ∧ W.cell? ⟨h, 1, none⟩ = some (.int .i64 t1) ∧ Below wr.heap.size wr W)
      case first =>
        go_region_held3 (fun W => W.cell? ⟨b, o + j * 2, none⟩ = some (.int .i64 s0) ∧ W.cell? ⟨b, o + j * 2 + 1, none⟩ = some (.int .i64 t0) ∧ W.cell? ⟨b, o + (j + 1) * 2, none⟩ = some (.int .i64 s1) ∧ W.cell? ⟨b, o + (j + 1) * 2 + 1, none⟩ = some (.int .i64 t1) ∧ b < W.heap.size ∧ wr.heap.size ≤ W.heap.size ∧ Below wr.heap.size wr W) (first | (refine ⟨?_, ?_, ?_, ?_, ?_, ?_, ?_⟩ <;> (repeat' (first | (with_reducible assumption) | (with_reducible refine cell_far ?_ ?_) | (with_reducible refine cell_old ?_ (by first | (with_reducible assumption) | omega | (simp; done) | (simp; omega))) | (with_reducible refine cell_drew ?_) | omega | (simp only [World.size_alloc, World.size_setCell, World.size_drew]; omega) | (with_reducible refine below_set ?_ ?_) | (with_reducible refine Below.alloc ?_ ?_ _) | (with_reducible refine Below.drew ?_) | (with_reducible exact Below.refl _ _) | omega | (go_cell; done) | (simp; done) | (simp; omega))); done)) (fail)
        all_goals
          go_wp2_with fail
          go_meet
          clear ka kn HV HS
          refine ⟨_, _, rfl, rfl, ?_, ?_, ?_, ?_, ?_, ?_, ?_⟩
          all_goals first | (go_cell; done) | (simp; done) | (simp; omega) | go_grown
      case rest =>
        obtain ⟨g, h, rfl, rfl, gl, hl, k0, k1, l0, l1, hbW⟩ := hcut
        replace hB := hB.trans (hbW.mono hB.size)
        replace hA := hA.below hbW
        obtain ⟨hc, hf, hs⟩ := bkeep hbW
        clear hbW
        go_wp2
        (refine wp_region_cls_tail1 19 (by kernel_rfl) (by kernel_rfl) (fun _ _ _ h => h) ?_; simp only [List.take_succ_cons, List.take_zero, List.drop_succ_cons, List.drop_zero, Nat.add_one_sub_one, Nat.reduceSub]; (conv => arg 6; simp [go_sem]); (repeat (go_big_quiet_step ((first | (go_at_call 57; exact cls_S (ka _)) | (go_at_call 71; exact cls_B (kn _)))))); refine wpQuiet_nil ?_; rintro _ ⟨u, rfl⟩; have hb := u.below; replace hB := hB.trans (hb.mono hB.size); replace hA := hA.below hb; generalize u.w = w' at *; obtain ⟨hc, hf, hs⟩ := bkeep hb; have hq' := hb.size; have hq := hB.size; have hb' := hb; clear hb)
        go_wp2_with (at_builtin; refine app_int _ rfl _ _ rfl w.heap.size _ _ rfl (hA.alloc _) w'.heap.size 1 (nearV (absV (z1 - z0)) (t1 - t0)) rfl (by go_cell) hlen (by simp; omega) ?_; intro v' w1 hA' hw1)
        go_roundw
        case rel => exact ⟨j + 1, by omega, by go_num, by rw [HS.out, HV.out]; exact hA', (Below.alloc hB hq _).trans hw1⟩
        case measure => simp [intOf]; omega
    · obtain rfl : j = m - 1 := by omega
      go_wp2
      go_returns
      exact hA.row hB

set_option maxHeartbeats 4000000 in
theorem spec_l12Speeds (a : Option Addr) (n c : Nat) (Z : Nat → Int) (a' : Option Addr) (m c' : Nat) (S T : Nat → Int) (w : World) (hz : IntsAt w a n Z) (hy : PassAt w a' m S T) (ok : passOk Z n S T m = true) :
    Calls Tryd.prog 61 #[.slice a n c, .slice a' m c'] w (RetRow (speedsA Z S T (m - 1)) w) := by
  obtain ⟨hr, h16, hg, h32⟩ := passOk_parts ok
  have hbd := fun j h => rises_bd (j := j) hr h
  have HB := Lib.hid hbd
  have HG := Lib.hid hg
  clear hr hbd hg ok
  go_enter Tryd.func61, Tryd.ntmps61
  go_wp2
  go_loopw [5, 6] (fun o i wr => ∃ j : Nat, (j = 0 ∨ j + 1 ≤ m) ∧ i = .int .i64 ((j : Int) + 1) ∧ AppOf w.heap.size wr o (speedsA Z S T j) ∧ Below w.heap.size w wr) (fun _ i _ => m - (intOf i).toNat)
  case atStart => exact ⟨0, by omega, rfl, AppOf.made (Nat.le_refl _), (Below.alloc (Below.refl _ _) (Nat.le_refl _) _)⟩
  case round =>
    obtain ⟨j, hj, rfl, hA, hB⟩ := hrel
    have hq := hB.size
    have hlen : (speedsA Z S T j).length ≤ 16777216 := by rw [speedsA_len]; omega
    by_cases hlt : j + 1 < m
    · obtain ⟨b, o, rfl, hb, hc⟩ := hy (by omega)
      obtain ⟨p0, p1, p2, p3⟩ := goodP_at HG.out (show j < m by omega)
      obtain ⟨q0, q1, q2, q3⟩ := goodP_at HG.out hlt
      have tt := (goodP_next HG.out hlt).1
      obtain ⟨bz, oz, rfl, hbz, hcz⟩ := hz (by omega)
      obtain ⟨c0, d0⟩ := hc j (by omega)
      obtain ⟨c1, d1⟩ := hc (j + 1) hlt
      have e0 := hcz (S j).toNat (by omega)
      have e1 := hcz (S (j + 1)).toNat (by omega)
      obtain ⟨f0, g0⟩ := HB.out (S j).toNat (by omega)
      obtain ⟨f1, g1⟩ := HB.out (S (j + 1)).toNat (by omega)
      replace c0 := (hB.cell (p := ⟨b, o + j * 2, none⟩) hb).trans c0
      replace d0 := (hB.cell (p := ⟨b, o + j * 2 + 1, none⟩) hb).trans d0
      replace c1 := (hB.cell (p := ⟨b, o + (j + 1) * 2, none⟩) hb).trans c1
      replace d1 := (hB.cell (p := ⟨b, o + (j + 1) * 2 + 1, none⟩) hb).trans d1
      replace e0 := (hB.cell (p := ⟨bz, oz + (S j).toNat, none⟩) hbz).trans e0
      replace e1 := (hB.cell (p := ⟨bz, oz + (S (j + 1)).toNat, none⟩) hbz).trans e1
      have hb1 : b < wr.heap.size := Nat.lt_of_lt_of_le hb hB.size
      have hb2 : bz < wr.heap.size := Nat.lt_of_lt_of_le hbz hB.size
      have i0 : (0 : Int) ≤ (j : Int) := by omega
      have i1 : (j : Int) + 1 < (m : Int) := by omega
      have i2 : (0 : Int) ≤ (j : Int) + 1 := by omega
      have i3 : (j : Int) < (m : Int) := by omega
      have i4 : IntKind.i64.wrap ((j : Int) + 1 - 1) = (j : Int) := by rw [IntWalk.i64_in _ (by omega)]; omega
      have i7 : IntKind.i64.wrap (j : Int) = (j : Int) := IntWalk.i64_in _ (by omega)
      have i6 : (j : Int) + 1 - 1 = (j : Int) := by omega
      have i5 : ((j : Int) + 1).toNat = j + 1 := by omega
      have HS := Lib.hid (speedsA_next Z S T j)
      have HV := Lib.hid (show spdV Z S T j = nearV (absV (Z (S (j + 1)).toNat - Z (S j).toNat)) (T (j + 1) - T j) from rfl)
      clear hc hcz hj
      generalize speedsA Z S T j = L at *
      generalize Z (S (j + 1)).toNat = z1 at *
      generalize Z (S j).toNat = z0 at *
      generalize T (j + 1) = t1 at *
      generalize T j = t0 at *
      generalize S (j + 1) = s1 at *
      generalize S j = s0 at *
      have w1 : IntKind.i64.wrap (z1 - z0) = z1 - z0 := IntWalk.i64_in _ (by omega)
      have w2 : IntKind.i64.wrap (-(z1 - z0)) = -(z1 - z0) := IntWalk.i64_in _ (by omega)
      have w3 : IntKind.i64.wrap (t1 - t0) = t1 - t0 := IntWalk.i64_in _ (by omega)
      obtain ⟨a0, a1⟩ := absV_bd (x := z1 - z0) (a := 4000000) (by omega) (by omega)
      have ka : ∀ W, Calls Tryd.prog 78 #[.int .i64 (z1 - z0), .int .i64 (-(z1 - z0))] W fun e w' => e = .returned (.int .i64 (absV (z1 - z0))) ∧ W = w' := fun W => by
        have h := spec_l00Max (z1 - z0) (-(z1 - z0)) W
        rwa [absV_max'] at h
      have kn := fun W => spec_l01Div (absV (z1 - z0)) (t1 - t0) W (by omega) (by omega) (by omega) (by omega)
      go_wp2
      (refine wp_region_cls (by kernel_rfl) (by kernel_rfl) ?_; (repeat (go_big_quiet_step (fail))); refine wpQuiet_nil ?_; rintro _ ⟨u, rfl⟩; have hb := u.below; replace hB := hB.trans (hb.mono hB.size); replace hA := hA.below hb; generalize u.w = w' at *; obtain ⟨hc, hf, hs⟩ := bkeep hb; have hq' := hb.size; have hq := hB.size; have hb' := hb; clear hb)
      go_wp2
      (refine wp_region_cls_tail1 18 (by kernel_rfl) (by kernel_rfl) (fun _ _ _ h => h) ?_; simp only [List.take_succ_cons, List.take_zero, List.drop_succ_cons, List.drop_zero, Nat.add_one_sub_one, Nat.reduceSub]; (conv => arg 6; simp [go_sem]); (repeat (go_big_quiet_step ((first | (go_at_call 78; exact cls_S (ka _)) | (go_at_call 77; exact cls_S (kn _)))))); refine wpQuiet_nil ?_; rintro _ ⟨u, rfl⟩; have hb := u.below; replace hB := hB.trans (hb.mono hB.size); replace hA := hA.below hb; generalize u.w = w' at *; obtain ⟨hc, hf, hs⟩ := bkeep hb; have hq' := hb.size; have hq := hB.size; have hb' := hb; clear hb)
      go_wp2_with (at_builtin; refine app_int _ rfl _ _ rfl w.heap.size _ _ rfl (hA.alloc _) w'.heap.size 1 (nearV (absV (z1 - z0)) (t1 - t0)) rfl (by go_cell) hlen (by simp; omega) ?_; intro v' w1 hA' hw1)
      go_roundw
      case rel => exact ⟨j + 1, by omega, by go_num, by rw [HS.out, HV.out]; exact hA', (Below.alloc hB hq _).trans hw1⟩
      case measure => simp [intOf]; omega
    · obtain rfl : j = m - 1 := by omega
      go_wp2
      go_returns
      exact hA.row hB

end Go.Proofs.YtdhjnpjemaofoaaDoor
