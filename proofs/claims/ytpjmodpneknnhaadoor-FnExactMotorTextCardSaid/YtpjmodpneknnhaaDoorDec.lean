/-
  Contract: a number in decimal, in the reference.
-/
import Derived.Test.YtpjmodpneknnhaaDoorKA
import Derived.Test.YtpjmodpneknnhaaDoorAn
import Derived.Test.YtpjmodpneknnhaaDoorQt
import Derived.Deep.DeepCutAuto
import Derived.Lib.Hide
import Derived.Lib.ItoaNum
import Derived.Lib.ItoaLen
import Derived.Laws.Concat
import Derived.Lib.UnsafeStr
import Derived.Laws.IdiomStrings
namespace Go.Proofs.YtpjmodpneknnhaaDoor
open Go.RowKit
open Go.Lib (byteCells itoa decDigits)
set_option linter.unusedVariables false
set_option linter.unusedSimpArgs false

def dd (m : Nat) : List UInt8 := if m = 0 then [] else decDigits m
theorem dd_step {m : Nat} (h : 0 < m) : dd m = dd (m / 10) ++ [UInt8.ofNat (48 + m % 10)] := by
  unfold dd
  rw [if_neg (by omega)]
  by_cases h1 : m < 10
  · rw [decDigits, dif_pos h1, if_pos (by omega), show m % 10 = m by omega]; rfl
  · rw [decDigits, dif_neg h1, if_neg (by omega)]
/-- The slice value v holds the bytes L in a row of the call's own, from block B on. -/
def BysOf (B : Nat) (w : World) (v : Value) (L : List UInt8) : Prop := w.ownsRow B 5 1 v L.length (byteCells L)
theorem uint8_info : (Tryd.prog.info? 5).map (fun i => (i.zero, i.size, i.bytes)) = some (some (.int .u8 0), 1, 1) := by kernel_rfl
theorem BysOf.snoc {B : Nat} {w : World} {v : Value} {L : List UInt8} {c : UInt8} (h : w.ownsRow B 5 1 v (L.length + 1) (byteCells L ++ [.int .u8 c.toNat])) : BysOf B w v (L ++ [c]) := by
  unfold BysOf
  rw [List.length_append, Go.Lib.byteCells_append]
  exact h
theorem BysOf.below {B : Nat} {w w' : World} {v : Value} {L : List UInt8} (h : BysOf B w v L) (hb : Below w.heap.size w w') : BysOf B w' v L :=
  World.ownsRow.kept (row := none) h ⟨hb.os, hb.tape, hb.output, hb.size, fun k hk _ => hb.block k hk⟩ (by cases hv : v.ownBlock <;> simp)
theorem BysOf.alloc {B : Nat} {w : World} {v : Value} {L : List UInt8} (h : BysOf B w v L) (o : Obj) : BysOf B (w.alloc o) v L := World.ownsRow.alloc h o
theorem BysOf.at {B : Nat} {w : World} {v : Value} {L : List UInt8} (h : BysOf B w v L) (hn : 0 < L.length) : ∃ g c, v = .slice (some ⟨g, 0, none⟩) L.length c ∧ B ≤ g ∧ g < w.heap.size ∧ ∀ j (hj : j < L.length), w.cell? ⟨g, j, none⟩ = some (.int .u8 (L[j].toNat : Int)) := by
  obtain ⟨a, c, rfl, ho⟩ := own_outN h
  obtain ⟨g, rfl, hB, _, hb, hc⟩ := ho (by omega)
  refine ⟨g, c, rfl, hB, hb, fun j hj => ?_⟩
  rw [(hc j (by omega)).1]
  show some ((byteCells L).getD j (.int .i64 0)) = _
  rw [List.getD_eq_getElem?_getD]
  simp [byteCells, hj]
theorem one1 (x : Int) : ∀ u ∈ [Value.int .u8 x], u.oneCell' = true := by
  intro u hu
  simp only [List.mem_cons, List.not_mem_nil, or_false] at hu
  subst hu; rfl
theorem cells1 {w : World} {g : Nat} {x : Value} (c0 : w.cell? ⟨g, 0, none⟩ = some x) : ∀ j u, [x][j]? = some u → w.cell? ⟨g, j, none⟩ = some u := by
  intro j u hj
  rcases j with _ | j
  · rw [← hj]; exact c0
  · simp at hj

set_option maxHeartbeats 4000000 in
theorem spec_l01Dec (n : Int) (w : World) (h0 : -9223372036854775808 ≤ n) (h1 : n ≤ 9223372036854775807) : Calls Tryd.prog 68 #[.int .i64 n] w fun e w' => e = .returned (.string ⟨(itoa n).toArray⟩) ∧ Below w.heap.size w w' := by
  by_cases hz : n = 0
  · subst hz
    rw [show itoa 0 = [48] by unfold itoa; rw [if_neg (by decide)]; show decDigits 0 = _; rw [decDigits, dif_pos (by decide)]; rfl]
    go_enter Tryd.func68, Tryd.ntmps68
    go_wp2
    go_returns
    exact ⟨rfl, Below.refl _ _⟩
  · have hn0 : (n == 0) = false := beq_eq_false_iff_ne.2 hz
    obtain ⟨R, hR⟩ : ∃ R, R = itoa n := ⟨_, rfl⟩
    rw [← hR]
    have HR := Lib.hid hR
    clear hR
    go_enter Tryd.func68, Tryd.ntmps68
    go_upto_region 4 with fail
    have hS0 : BysOf w.heap.size (w.alloc (.cells #[] 5)) (.slice (some ⟨w.heap.size, 0, none⟩) 0 0) [] := World.ownsRow_made w #[] 0 (Nat.le_refl _) (by decide) rfl
    have hB0 : Below w.heap.size w (w.alloc (.cells #[] 5)) := Below.alloc (Below.refl _ _) (Nat.le_refl _) _
    generalize w.alloc (.cells #[] 5) = w1 at *
    go_wp2
    go_loopw [3, 4] (fun dv mv wr => ∃ (m : Int) (D : List UInt8), mv = .int .i64 m ∧ BysOf w.heap.size wr dv D ∧ Below w.heap.size w wr ∧ dd n.natAbs = dd m.natAbs ++ D.reverse ∧ D.length ≤ 20 ∧ m.natAbs < 10 ^ (20 - D.length) ∧ -9223372036854775808 ≤ m ∧ m ≤ 9223372036854775807) (fun _ mv _ => (intOf mv).natAbs)
    case atStart => exact ⟨n, [], rfl, hS0, hB0, by simp, by simp, by simp only [List.length_nil]; omega, h0, h1⟩
    case round =>
      clear hS0 hB0
      obtain ⟨m, D, rfl, hS, hB, hD, hlen, hpow, hm1, hm2⟩ := hrel
      by_cases hm : m = 0
      · subst hm
        have hD2 : dd n.natAbs = D.reverse := by rw [hD]; rfl
        have HD := Lib.hid hD2
        clear hD hD2 hpow
        by_cases hneg : n < 0
        · have HE := Lib.hid (show R = (D ++ [45]).reverse by
            rw [HR.out]; unfold itoa; rw [if_pos hneg, List.reverse_append, ← HD.out]; unfold dd; rw [if_neg (by omega)]; rfl)
          go_upto_region 13 with (first | (at_builtin; refine app_cells 110 5 _ 1 1 uint8_info Tryd.underlying110 rfl (by decide) (by decide) _ rfl _ _ rfl w.heap.size _ _ _ rfl (World.ownsRow.alloc hS _) _ _ [.int .u8 45] rfl rfl (cells1 (by go_cell)) (one1 _) (by omega) (by have := hB.size; simp; omega) ?_; intro v' w8 hL hb8 _; have hS8 := BysOf.snoc (c := 45) (by rw [show ((45 : UInt8).toNat : Int) = 45 from rfl]; exact hL); have hB8 := (Below.alloc hB hB.size _).trans hb8; clear hL hb8))
          obtain ⟨F, hF⟩ : ∃ F, F = (D ++ [45]) := ⟨_, rfl⟩
          have hFl : F.length ≤ 21 := by rw [hF]; simp; omega
          have hFp : 0 < F.length := by rw [hF]; simp
          rw [← hF] at hS8
          have HE := Lib.hid (HE.out.trans (by rw [hF] : ((D ++ [45])).reverse = F.reverse))
          clear hF
          go_upto_region 14 with fail
          have hS9 : BysOf w8.heap.size (w8.alloc (.cells #[] 5)) (.slice (some ⟨w8.heap.size, 0, none⟩) 0 0) [] := World.ownsRow_made w8 #[] 0 (Nat.le_refl _) (by decide) rfl
          have hB9 : Below w8.heap.size w8 (w8.alloc (.cells #[] 5)) := Below.alloc (Below.refl _ _) (Nat.le_refl _) _
          generalize w8.alloc (.cells #[] 5) = w9 at *
          obtain ⟨gf, cf, rfl, _, hgf, hcf⟩ := hS8.at hFp
          have HC := Lib.hid hcf
          clear hcf
          go_wp2
          go_loopw [6, 7] (fun ov iv wx => ∃ q : Nat, q ≤ F.length ∧ iv = .int .i64 ((q : Int) - 1) ∧ BysOf w8.heap.size wx ov (F.reverse.take (F.length - q)) ∧ Below w8.heap.size w8 wx) (fun _ iv _ => (intOf iv + 1).toNat)
          case atStart => exact ⟨F.length, Nat.le_refl _, rfl, by rw [Nat.sub_self, List.take_zero]; exact hS9, hB9⟩
          case round =>
            clear hS9 hB9
            obtain ⟨q, hq, rfl, hS, hB⟩ := hrel
            rcases Nat.eq_zero_or_pos q with h | h
            · subst h
              have hfin : F.reverse.take (F.length - 0) = F.reverse := by rw [Nat.sub_zero, ← List.length_reverse, List.take_length]
              rw [hfin] at hS
              obtain ⟨go, co, rfl, _, hgo, hco⟩ := hS.at (by simpa using hFp)
              have hconv := run_convert_bytes_back (P := Tryd.prog) wr 110 9 5 ⟨go, 0, none⟩ co F.reverse Tryd.underlying110 Tryd.underlying5 Tryd.underlying9 (fun j hj => by
                have e : (⟨go, 0, none⟩ : Addr).add j = ⟨go, j, none⟩ := by unfold Addr.add; cases j <;> simp
                rw [e]; exact hco j hj)
              clear hco
              rw [List.length_reverse] at hconv ⊢
              go_wp2
              go_returns
              exact ⟨by rw [HE.out]; rfl, hB8.trans (hB.mono hB8.size)⟩
            · obtain ⟨q, rfl⟩ : ∃ p, q = p + 1 := ⟨q - 1, by omega⟩
              rw [show (((q + 1 : Nat) : Int) - 1) = (q : Int) by omega]
              have hql : q < F.length := by omega
              have cc := (hB.cell (p := ⟨gf, q, none⟩) hgf).trans (HC.out q hql)
              have hgf2 : gf < wr.heap.size := Nat.lt_of_lt_of_le hgf hB.size
              have hlen2 : (F.reverse.take (F.length - (q + 1))).length ≤ 21 := by rw [List.length_take]; omega
              have hnext : F.reverse.take (F.length - q) = F.reverse.take (F.length - (q + 1)) ++ [F[q]] := by
                rw [show F.length - q = F.length - (q + 1) + 1 by omega, List.take_add_one, List.getElem?_reverse (by omega), show F.length - 1 - (F.length - (q + 1)) = q by omega, List.getElem?_eq_getElem hql, Option.toList_some]
              have HN := Lib.hid hnext
              clear hnext
              generalize F[q] = c at *
              have q0 : (0 : Int) ≤ (q : Int) := by omega
              have q1 : (q : Int) < (F.length : Int) := by omega
              have q2 : ¬ (q : Int) < 0 := by omega
              generalize F.reverse.take (F.length - (q + 1)) = L at *
              go_wp2_with (at_builtin; refine app_cells 110 5 _ 1 1 uint8_info Tryd.underlying110 rfl (by decide) (by decide) _ rfl _ _ rfl w8.heap.size _ _ _ rfl (World.ownsRow.alloc hS _) _ _ [.int .u8 (c.toNat : Int)] rfl rfl (cells1 (by go_cell)) (one1 _) (by omega) (by have := hB.size; simp; omega) ?_; intro v' w8 hL hb8 _; have hS8 := BysOf.snoc (c := c) hL; have hB8 := (Below.alloc hB hB.size _).trans hb8; clear hL hb8)
              go_roundw
              case rel => exact ⟨q, by omega, rfl, by rw [HN.out]; exact hS8, hB8⟩
              case measure => simp [intOf]
        · have HE := Lib.hid (show R = D.reverse by
            rw [HR.out]; unfold itoa; rw [if_neg hneg, ← HD.out]; unfold dd; rw [if_neg (by omega)]; congr 1; omega)
          have hnn : decide (n < 0) = false := decide_eq_false hneg
          go_upto_region 13 with fail
          obtain ⟨w8, hw8⟩ : ∃ w8, w8 = wr := ⟨_, rfl⟩
          subst hw8
          have hS8 := hS
          have hB8 := hB
          obtain ⟨F, hF⟩ : ∃ F, F = D := ⟨_, rfl⟩
          have hFl : F.length ≤ 21 := by rw [hF]; omega
          have hFp : 0 < F.length := by
            rw [hF]
            rcases Nat.eq_zero_or_pos D.length with h | h
            · have h2 := HD.out
              rw [List.length_eq_zero_iff.1 h] at h2
              rw [dd_step (by omega)] at h2
              simp at h2
            · exact h
          rw [← hF] at hS8
          have HE := Lib.hid (HE.out.trans (by rw [hF] : (D).reverse = F.reverse))
          clear hF
          go_upto_region 14 with fail
          have hS9 : BysOf w8.heap.size (w8.alloc (.cells #[] 5)) (.slice (some ⟨w8.heap.size, 0, none⟩) 0 0) [] := World.ownsRow_made w8 #[] 0 (Nat.le_refl _) (by decide) rfl
          have hB9 : Below w8.heap.size w8 (w8.alloc (.cells #[] 5)) := Below.alloc (Below.refl _ _) (Nat.le_refl _) _
          generalize w8.alloc (.cells #[] 5) = w9 at *
          obtain ⟨gf, cf, rfl, _, hgf, hcf⟩ := hS8.at hFp
          have HC := Lib.hid hcf
          clear hcf
          go_wp2
          go_loopw [6, 7] (fun ov iv wx => ∃ q : Nat, q ≤ F.length ∧ iv = .int .i64 ((q : Int) - 1) ∧ BysOf w8.heap.size wx ov (F.reverse.take (F.length - q)) ∧ Below w8.heap.size w8 wx) (fun _ iv _ => (intOf iv + 1).toNat)
          case atStart => exact ⟨F.length, Nat.le_refl _, rfl, by rw [Nat.sub_self, List.take_zero]; exact hS9, hB9⟩
          case round =>
            clear hS9 hB9
            obtain ⟨q, hq, rfl, hS, hB⟩ := hrel
            rcases Nat.eq_zero_or_pos q with h | h
            · subst h
              have hfin : F.reverse.take (F.length - 0) = F.reverse := by rw [Nat.sub_zero, ← List.length_reverse, List.take_length]
              rw [hfin] at hS
              obtain ⟨go, co, rfl, _, hgo, hco⟩ := hS.at (by simpa using hFp)
              have hconv := run_convert_bytes_back (P := Tryd.prog) wr 110 9 5 ⟨go, 0, none⟩ co F.reverse Tryd.underlying110 Tryd.underlying5 Tryd.underlying9 (fun j hj => by
                have e : (⟨go, 0, none⟩ : Addr).add j = ⟨go, j, none⟩ := by unfold Addr.add; cases j <;> simp
                rw [e]; exact hco j hj)
              clear hco
              rw [List.length_reverse] at hconv ⊢
              go_wp2
              go_returns
              exact ⟨by rw [HE.out]; rfl, hB8.trans (hB.mono hB8.size)⟩
            · obtain ⟨q, rfl⟩ : ∃ p, q = p + 1 := ⟨q - 1, by omega⟩
              rw [show (((q + 1 : Nat) : Int) - 1) = (q : Int) by omega]
              have hql : q < F.length := by omega
              have cc := (hB.cell (p := ⟨gf, q, none⟩) hgf).trans (HC.out q hql)
              have hgf2 : gf < wr.heap.size := Nat.lt_of_lt_of_le hgf hB.size
              have hlen2 : (F.reverse.take (F.length - (q + 1))).length ≤ 21 := by rw [List.length_take]; omega
              have hnext : F.reverse.take (F.length - q) = F.reverse.take (F.length - (q + 1)) ++ [F[q]] := by
                rw [show F.length - q = F.length - (q + 1) + 1 by omega, List.take_add_one, List.getElem?_reverse (by omega), show F.length - 1 - (F.length - (q + 1)) = q by omega, List.getElem?_eq_getElem hql, Option.toList_some]
              have HN := Lib.hid hnext
              clear hnext
              generalize F[q] = c at *
              have q0 : (0 : Int) ≤ (q : Int) := by omega
              have q1 : (q : Int) < (F.length : Int) := by omega
              have q2 : ¬ (q : Int) < 0 := by omega
              generalize F.reverse.take (F.length - (q + 1)) = L at *
              go_wp2_with (at_builtin; refine app_cells 110 5 _ 1 1 uint8_info Tryd.underlying110 rfl (by decide) (by decide) _ rfl _ _ rfl w8.heap.size _ _ _ rfl (World.ownsRow.alloc hS _) _ _ [.int .u8 (c.toNat : Int)] rfl rfl (cells1 (by go_cell)) (one1 _) (by omega) (by have := hB.size; simp; omega) ?_; intro v' w8 hL hb8 _; have hS8 := BysOf.snoc (c := c) hL; have hB8 := (Below.alloc hB hB.size _).trans hb8; clear hL hb8)
              go_roundw
              case rel => exact ⟨q, by omega, rfl, by rw [HN.out]; exact hS8, hB8⟩
              case measure => simp [intOf]
      · have hl2 : D.length < 20 := by
          rcases Nat.lt_or_ge D.length 20 with h | h
          · exact h
          · rw [show 20 - D.length = 0 by omega] at hpow; omega
        have hm0 : (m != 0) = true := bne_iff_ne.2 hm
        have hq : (m.tdiv 10).natAbs = m.natAbs / 10 := by rw [Int.natAbs_tdiv]; rfl
        have hr : (m.tmod 10).natAbs = m.natAbs % 10 := by rw [Int.natAbs_tmod]; rfl
        have hD2 : dd n.natAbs = dd (m.tdiv 10).natAbs ++ (D ++ [UInt8.ofNat (48 + m.natAbs % 10)]).reverse := by
          rw [hD, dd_step (m := m.natAbs) (by omega), hq]; simp
        obtain ⟨k, hk⟩ : ∃ k : Nat, k = m.natAbs % 10 := ⟨_, rfl⟩
        rw [← hk] at hD2 hr
        have hk9 : k ≤ 9 := by omega
        have hch : ((UInt8.ofNat (48 + k)).toNat : Int) = 48 + (k : Int) := by
          rw [UInt8.toNat_ofNat']; omega
        have hp2 : (m.tdiv 10).natAbs < 10 ^ (20 - (D.length + 1)) := by
          rw [hq]
          have e : 10 ^ (20 - D.length) = 10 ^ (20 - (D.length + 1)) * 10 := by rw [← Nat.pow_succ]; congr 1; omega
          omega
        have hlt : (m.tdiv 10).natAbs < m.natAbs := by rw [hq]; omega
        have HD := Lib.hid hD2
        clear hD hD2 hpow hq hk
        have q0 : -9223372036854775808 ≤ m.tdiv 10 := by omega
        have q1 : m.tdiv 10 ≤ 9223372036854775807 := by omega
        by_cases hneg : m.tmod 10 < 0
        · have he : -(m.tmod 10) = k := by omega
          have he2 : m.tmod 10 = -(k : Int) := by omega
          have hdn : decide (-(k : Int) < 0) = true := decide_eq_true (by omega)
          go_wp2_with (at_builtin; refine app_cells 110 5 _ 1 1 uint8_info Tryd.underlying110 rfl (by decide) (by decide) _ rfl _ _ rfl w.heap.size _ _ _ rfl (World.ownsRow.alloc hS _) _ _ [.int .u8 (48 + (k : Int))] rfl rfl (cells1 (by go_cell)) (one1 _) (by omega) (by have := hB.size; simp; omega) ?_; intro v' w8 hL hb8 _; have hS8 := BysOf.snoc (c := UInt8.ofNat (48 + k)) (by rw [hch]; exact hL); have hB8 := (Below.alloc hB hB.size _).trans hb8; clear hL hb8)
          go_roundw
          case rel => exact ⟨m.tdiv 10, D ++ [UInt8.ofNat (48 + k)], rfl, hS8, hB8, HD.out, by simp; omega, by simpa using hp2, q0, q1⟩
          case measure => simpa [intOf] using hlt
        · have he : m.tmod 10 = k := by omega
          go_wp2_with (at_builtin; refine app_cells 110 5 _ 1 1 uint8_info Tryd.underlying110 rfl (by decide) (by decide) _ rfl _ _ rfl w.heap.size _ _ _ rfl (World.ownsRow.alloc hS _) _ _ [.int .u8 (48 + (k : Int))] rfl rfl (cells1 (by go_cell)) (one1 _) (by omega) (by have := hB.size; simp; omega) ?_; intro v' w8 hL hb8 _; have hS8 := BysOf.snoc (c := UInt8.ofNat (48 + k)) (by rw [hch]; exact hL); have hB8 := (Below.alloc hB hB.size _).trans hb8; clear hL hb8)
          go_roundw
          case rel => exact ⟨m.tdiv 10, D ++ [UInt8.ofNat (48 + k)], rfl, hS8, hB8, HD.out, by simp; omega, by simpa using hp2, q0, q1⟩
          case measure => simpa [intOf] using hlt
/-- A number's decimal text. -/
def dtx (n : Int) : ByteArray := ⟨(itoa n).toArray⟩
theorem dtx_size {n : Int} (h0 : -9223372036854775808 ≤ n) (h1 : n ≤ 9223372036854775807) : (dtx n).size ≤ 21 := by
  have h := Go.Lib.itoa_length_le n h0 h1
  have e : (dtx n).size = (itoa n).length := by unfold dtx; simp [ByteArray.size]
  omega
theorem str_add {P : Program} {a b : ByteArray} (h : a.size + b.size ≤ 1000000) : ∀ w, (Op.stringOp .add a b).run P w = .ok (.string (a ++ b)) w := fun w => run_string_add_sum w a b (by omega)
theorem spec_l01Dec_t (n : Int) (w : World) (h0 : -9223372036854775808 ≤ n) (h1 : n ≤ 9223372036854775807) : Calls Tryd.prog 68 #[.int .i64 n] w fun e w' => e = .returned (.string (dtx n)) ∧ Below w.heap.size w w' := spec_l01Dec n w h0 h1

end Go.Proofs.YtpjmodpneknnhaaDoor
