/-
  Contracts: lists of states: where a state lies, the first one that is not safe.
-/
import Derived.Test.YtjfpiadjbhnljaaKB
import Derived.Test.YtjfpiadjbhnljaaKN
import Derived.Test.YtjfpiadjbhnljaaKM
import Derived.Test.YtjfpiadjbhnljaaPbf
import Derived.Test.YtjfpiadjbhnljaaAn
import Derived.Test.YtjfpiadjbhnljaaQu
import Derived.Deep.DeepCutAuto
import Derived.Lib.Hide
import Derived.Laws.StructEq
namespace Go.Proofs.Ytjfpiadjbhnljaa
open Go.RowKit
set_option linter.unusedVariables false
set_option linter.unusedSimpArgs false

/-- The slice's cells hold the states L, from the head of their block on. -/
def StsAt (w : World) (a : Option Addr) (L : List St) : Prop :=
  0 < L.length → ∃ b, a = some ⟨b, 0, none⟩ ∧ b < w.heap.size ∧ ∀ k y, L[k]? = some y → w.cell? ⟨b, k * 5, none⟩ = some (.int .i64 y.m) ∧ w.cell? ⟨b, k * 5 + 1, none⟩ = some (.bool y.o) ∧ w.cell? ⟨b, k * 5 + 2, none⟩ = some (.bool y.a) ∧ w.cell? ⟨b, k * 5 + 3, none⟩ = some (.bool y.b) ∧ w.cell? ⟨b, k * 5 + 4, none⟩ = some (.bool y.e)
theorem StsAt.below {w w' : World} {a : Option Addr} {L : List St} (h : StsAt w a L) (hb : Below w.heap.size w w') : StsAt w' a L := fun hn => by
  obtain ⟨b, rfl, hlt, hc⟩ := h hn
  exact ⟨b, rfl, Nat.lt_of_lt_of_le hlt hb.size, fun k y hy => ⟨(hb.cell (p := ⟨b, k * 5, none⟩) hlt).trans (hc k y hy).1, (hb.cell (p := ⟨b, k * 5 + 1, none⟩) hlt).trans (hc k y hy).2.1, (hb.cell (p := ⟨b, k * 5 + 2, none⟩) hlt).trans (hc k y hy).2.2.1, (hb.cell (p := ⟨b, k * 5 + 3, none⟩) hlt).trans (hc k y hy).2.2.2.1, (hb.cell (p := ⟨b, k * 5 + 4, none⟩) hlt).trans (hc k y hy).2.2.2.2⟩⟩
/-- The slice value v holds the states L in a row of the call's own, from block B on. -/
def StsOf (B : Nat) (w : World) (v : Value) (L : List St) : Prop := w.ownsRow B 23 5 v L.length (L.flatMap St.cellsL)
theorem StsOf.at {B : Nat} {w : World} {v : Value} {L : List St} (h : StsOf B w v L) : ∃ a c, v = .slice a L.length c ∧ StsAt w a L := by
  obtain ⟨a, c, rfl, ho⟩ := own_outN h
  refine ⟨a, c, rfl, fun hn => ?_⟩
  obtain ⟨g, rfl, _, _, hb, hc⟩ := ho (by omega)
  refine ⟨g, rfl, hb, fun k y hy => ?_⟩
  have hk : k < L.length := by
    rcases Nat.lt_or_ge k L.length with h1 | h1
    · exact h1
    · rw [List.getElem?_eq_none h1] at hy; cases hy
  have H : ∀ i, i < 5 → w.cell? ⟨g, k * 5 + i, none⟩ = some ((y.cellsL)[i]?.getD (.int .i64 0)) := fun i hi => by
    rw [(hc (k * 5 + i) (by omega)).1]
    show some ((L.flatMap St.cellsL).getD (k * 5 + i) (.int .i64 0)) = _
    rw [List.getD_eq_getElem?_getD, flat_get St.cellsL 5 (fun _ => rfl) L k i y hy hi]
  exact ⟨H 0 (by omega), H 1 (by omega), H 2 (by omega), H 3 (by omega), H 4 (by omega)⟩
theorem StsOf.below {B : Nat} {w w' : World} {v : Value} {L : List St} (h : StsOf B w v L) (hb : Below w.heap.size w w') : StsOf B w' v L :=
  World.ownsRow.kept (row := none) h ⟨hb.os, hb.tape, hb.output, hb.size, fun k hk _ => hb.block k hk⟩ (by cases hv : v.ownBlock <;> simp)
theorem St.eqB (x y : St) : (x == y) = ((x.m == y.m) && ((x.o == y.o) && ((x.a == y.a) && ((x.b == y.b) && (x.e == y.e))))) := by
  obtain ⟨m, o, a, b, e⟩ := x
  obtain ⟨m', o', a', b', e'⟩ := y
  by_cases h : (⟨m, o, a, b, e⟩ : St) = ⟨m', o', a', b', e'⟩
  · cases h; simp
  · rw [beq_eq_false_iff_ne.2 h]
    cases hh : ((m == m') && ((o == o') && ((a == a') && ((b == b') && (e == e')))))
    · rfl
    · simp only [Bool.and_eq_true, beq_iff_eq] at hh
      obtain ⟨rfl, rfl, rfl, rfl, rfl⟩ := hh
      exact absurd rfl h

theorem run_eq_State (x0 y0 : Int) (x1 x2 x3 x4 y1 y2 y3 y4 : Bool) (W : World) :
    (binOp .eql 23 (.agg #[.int .i64 y0, .bool y1, .bool y2, .bool y3, .bool y4]) (.agg #[.int .i64 x0, .bool x1, .bool x2, .bool x3, .bool x4])).run Try.prog W = .ok (.bool ((y0 == x0) && ((y1 == x1) && ((y2 == x2) && ((y3 == x3) && (y4 == x4)))))) W := by
  rw [run_eql_struct]
  generalize hd : 10000 = D
  obtain ⟨d, rfl⟩ : ∃ d, D = d + 1 + 1 := ⟨9998, by omega⟩
  rw [run_equalIn_agg (d := d + 1) (ht := by kernel_rfl) (hp := by kernel_rfl)]
  simp only [Program.fieldsOf, Try.underlying23]
  clear hd
  have u2 := Try.underlying2
  have u4 := Try.underlying4
  go_simp
  repeat' split
  all_goals simp [*]

set_option maxHeartbeats 1000000 in
theorem spec_l15Find (A : Option Addr) (c : Nat) (L : List St) (x0 : Int) (x1 x2 x3 x4 : Bool) (w : World) (hz : StsAt w A L) (hn : L.length ≤ 1048576) :
    Calls Try.prog 56 #[.slice A L.length c, .agg #[.int .i64 x0, .bool x1, .bool x2, .bool x3, .bool x4]] w fun e w' => e = .returned (.int .i64 (idx (fun j => L.getD j St.zero == ⟨x0, x1, x2, x3, x4⟩) L.length)) ∧ Below w.heap.size w w' := by
  have hq : ∀ j, (fun j => L.getD j St.zero == ⟨x0, x1, x2, x3, x4⟩) j = (L.getD j St.zero == ⟨x0, x1, x2, x3, x4⟩) := fun _ => rfl
  generalize (fun j => L.getD j St.zero == ⟨x0, x1, x2, x3, x4⟩) = q at *
  have HQ := Lib.hid hq
  clear hq
  go_enter Try.func56, Try.ntmps56
  go_upto_region 1 with fail
  (have Q0 : (w.alloc (Obj.cells #[.int .i64 x0, .bool x1, .bool x2, .bool x3, .bool x4] 23)).cell? ⟨w.heap.size, 0, none⟩ = some (.int .i64 x0) := (by go_simp); have Q1 : (w.alloc (Obj.cells #[.int .i64 x0, .bool x1, .bool x2, .bool x3, .bool x4] 23)).cell? ⟨w.heap.size, 1, none⟩ = some (.bool x1) := (by go_simp); have Q2 : (w.alloc (Obj.cells #[.int .i64 x0, .bool x1, .bool x2, .bool x3, .bool x4] 23)).cell? ⟨w.heap.size, 2, none⟩ = some (.bool x2) := (by go_simp); have Q3 : (w.alloc (Obj.cells #[.int .i64 x0, .bool x1, .bool x2, .bool x3, .bool x4] 23)).cell? ⟨w.heap.size, 3, none⟩ = some (.bool x3) := (by go_simp); have Q4 : (w.alloc (Obj.cells #[.int .i64 x0, .bool x1, .bool x2, .bool x3, .bool x4] 23)).cell? ⟨w.heap.size, 4, none⟩ = some (.bool x4) := (by go_simp); have Z5 : w.heap.size < (w.alloc (Obj.cells #[.int .i64 x0, .bool x1, .bool x2, .bool x3, .bool x4] 23)).heap.size := (by first | omega | (simp; done) | (simp; omega)); have BB : Below w.heap.size w (w.alloc (Obj.cells #[.int .i64 x0, .bool x1, .bool x2, .bool x3, .bool x4] 23)) := (by go_grown); generalize w.alloc (Obj.cells #[.int .i64 x0, .bool x1, .bool x2, .bool x3, .bool x4] 23) = w2 at *)
  obtain ⟨g, hg⟩ : ∃ g, w.heap.size = g := ⟨_, rfl⟩
  rw [hg] at Q0 Q1 Q2 Q3 Q4 Z5
  have HG := Lib.hid hg
  go_wp2
  go_loopw [5] (fun i wr => ∃ k : Nat, k ≤ L.length ∧ i = .int .i64 k ∧ fst q k = k ∧ Below w2.heap.size w2 wr) (fun i _ => L.length - (intOf i).toNat)
  case atStart => exact ⟨0, by omega, rfl, rfl, Below.refl _ _⟩
  case round =>
    obtain ⟨k, hk, rfl, hr, hB⟩ := hrel
    have hq := hB.size
    by_cases hlt : k < L.length
    · obtain ⟨y, hy⟩ : ∃ y, L[k]? = some y := ⟨_, List.getElem?_eq_getElem hlt⟩
      have hg : L.getD k St.zero = y := by rw [List.getD_eq_getElem?_getD, hy]; rfl
      have hz := hz.below BB
      obtain ⟨b, rfl, hb, hc⟩ := hz (by omega)
      obtain ⟨c0, c1, c2, c3, c4⟩ := hc k y hy
      replace c0 := (hB.cell (p := ⟨b, k * 5, none⟩) hb).trans c0
      replace c1 := (hB.cell (p := ⟨b, k * 5 + 1, none⟩) hb).trans c1
      replace c2 := (hB.cell (p := ⟨b, k * 5 + 2, none⟩) hb).trans c2
      replace c3 := (hB.cell (p := ⟨b, k * 5 + 3, none⟩) hb).trans c3
      replace c4 := (hB.cell (p := ⟨b, k * 5 + 4, none⟩) hb).trans c4
      replace Q0 := (hB.cell (p := ⟨g, 0, none⟩) Z5).trans Q0
      replace Q1 := (hB.cell (p := ⟨g, 1, none⟩) Z5).trans Q1
      replace Q2 := (hB.cell (p := ⟨g, 2, none⟩) Z5).trans Q2
      replace Q3 := (hB.cell (p := ⟨g, 3, none⟩) Z5).trans Q3
      replace Q4 := (hB.cell (p := ⟨g, 4, none⟩) Z5).trans Q4
      have Z1 : g < wr.heap.size := Nat.lt_of_lt_of_le Z5 hq
      have hqy := HQ.out k
      rw [hg] at hqy
      have hb1 : b < wr.heap.size := Nat.lt_of_lt_of_le hb hq
      have h0 : (0 : Int) ≤ (k : Int) := by omega
      have h1 : (k : Int) < (L.length : Int) := by omega
      clear hc hg
      obtain ⟨y0, y1, y2, y3, y4⟩ := y
      simp only at c0 c1 c2 c3 c4 hqy
      rw [St.eqB] at hqy
      simp only at hqy
      have hE := fun W => run_eq_State x0 y0 x1 x2 x3 x4 y1 y2 y3 y4 W
      rw [← hqy] at hE
      cases hqk : q k
      · have H := Lib.hid (fst_miss hr hqk)
        clear hr
        rw [hqk] at hE
        clear hqk hqy
        go_wp2
        (refine wp_region_cls (by kernel_rfl) (by kernel_rfl) ?_; (repeat (go_big_quiet_step (fail))); refine wpQuiet_nil ?_; rintro _ ⟨u, rfl⟩; have hb := u.below; replace hB := hB.trans (hb.mono hB.size); generalize u.w = w' at *; obtain ⟨hc, hf, hs⟩ := bkeep hb; have hq' := hb.size; have hq := hB.size; have hb' := hb; clear hb)
        go_wp2
        go_roundw
        case rel => exact ⟨k + 1, by omega, by go_num, H.out, hB⟩
        case measure => simp [intOf]; omega
      · have hfin : idx q L.length = k := by unfold idx; rw [fst_hit hr hqk hlt, if_pos hlt]
        have H := Lib.hid hfin
        clear hr hfin
        rw [hqk] at hE
        clear hqk hqy
        go_wp2
        (refine wp_region_cls (by kernel_rfl) (by kernel_rfl) ?_; (repeat (go_big_quiet_step (fail))); refine wpQuiet_nil ?_; rintro _ ⟨u, rfl⟩; have hb := u.below; replace hB := hB.trans (hb.mono hB.size); generalize u.w = w' at *; obtain ⟨hc, hf, hs⟩ := bkeep hb; have hq' := hb.size; have hq := hB.size; have hb' := hb; clear hb)
        go_wp2
        go_returns
        exact ⟨by rw [H.out]; rfl, BB.trans (hB.mono BB.size)⟩
    · obtain rfl : k = L.length := by omega
      have hfin : idx q L.length = -1 := by unfold idx; rw [hr, if_neg (by omega)]
      have H := Lib.hid hfin
      clear hr hfin
      go_wp2
      go_returns
      exact ⟨by rw [H.out]; rfl, BB.trans (hB.mono BB.size)⟩

set_option maxHeartbeats 1000000 in
theorem impl_Index_State (A : Option Addr) (c : Nat) (L : List St) (x0 : Int) (x1 x2 x3 x4 : Bool) (w : World) (hz : StsAt w A L) (hn : L.length ≤ 1048576) :
    Calls Try.prog 57 #[.slice A L.length c, .agg #[.int .i64 x0, .bool x1, .bool x2, .bool x3, .bool x4]] w fun e w' => e = .returned (.int .i64 (idx (fun j => L.getD j St.zero == ⟨x0, x1, x2, x3, x4⟩) L.length)) ∧ Below w.heap.size w w' := by
  have hq : ∀ j, (fun j => L.getD j St.zero == ⟨x0, x1, x2, x3, x4⟩) j = (L.getD j St.zero == ⟨x0, x1, x2, x3, x4⟩) := fun _ => rfl
  generalize (fun j => L.getD j St.zero == ⟨x0, x1, x2, x3, x4⟩) = q at *
  have HQ := Lib.hid hq
  clear hq
  go_enter Try.func57, Try.ntmps57
  go_upto_region 1 with fail
  (have Q0 : (w.alloc (Obj.cells #[.int .i64 x0, .bool x1, .bool x2, .bool x3, .bool x4] 23)).cell? ⟨w.heap.size, 0, none⟩ = some (.int .i64 x0) := (by go_simp); have Q1 : (w.alloc (Obj.cells #[.int .i64 x0, .bool x1, .bool x2, .bool x3, .bool x4] 23)).cell? ⟨w.heap.size, 1, none⟩ = some (.bool x1) := (by go_simp); have Q2 : (w.alloc (Obj.cells #[.int .i64 x0, .bool x1, .bool x2, .bool x3, .bool x4] 23)).cell? ⟨w.heap.size, 2, none⟩ = some (.bool x2) := (by go_simp); have Q3 : (w.alloc (Obj.cells #[.int .i64 x0, .bool x1, .bool x2, .bool x3, .bool x4] 23)).cell? ⟨w.heap.size, 3, none⟩ = some (.bool x3) := (by go_simp); have Q4 : (w.alloc (Obj.cells #[.int .i64 x0, .bool x1, .bool x2, .bool x3, .bool x4] 23)).cell? ⟨w.heap.size, 4, none⟩ = some (.bool x4) := (by go_simp); have Z5 : w.heap.size < (w.alloc (Obj.cells #[.int .i64 x0, .bool x1, .bool x2, .bool x3, .bool x4] 23)).heap.size := (by first | omega | (simp; done) | (simp; omega)); have BB : Below w.heap.size w (w.alloc (Obj.cells #[.int .i64 x0, .bool x1, .bool x2, .bool x3, .bool x4] 23)) := (by go_grown); generalize w.alloc (Obj.cells #[.int .i64 x0, .bool x1, .bool x2, .bool x3, .bool x4] 23) = w2 at *)
  obtain ⟨g, hg⟩ : ∃ g, w.heap.size = g := ⟨_, rfl⟩
  rw [hg] at Q0 Q1 Q2 Q3 Q4 Z5
  have HG := Lib.hid hg
  go_wp2
  go_loopw [8] (fun i wr => ∃ k : Nat, k ≤ L.length ∧ i = .int .i64 k ∧ fst q k = k ∧ Below w2.heap.size w2 wr) (fun i _ => L.length - (intOf i).toNat)
  case atStart => exact ⟨0, by omega, rfl, rfl, Below.refl _ _⟩
  case round =>
    obtain ⟨k, hk, rfl, hr, hB⟩ := hrel
    have hq := hB.size
    by_cases hlt : k < L.length
    · obtain ⟨y, hy⟩ : ∃ y, L[k]? = some y := ⟨_, List.getElem?_eq_getElem hlt⟩
      have hg : L.getD k St.zero = y := by rw [List.getD_eq_getElem?_getD, hy]; rfl
      have hz := hz.below BB
      obtain ⟨b, rfl, hb, hc⟩ := hz (by omega)
      obtain ⟨c0, c1, c2, c3, c4⟩ := hc k y hy
      replace c0 := (hB.cell (p := ⟨b, k * 5, none⟩) hb).trans c0
      replace c1 := (hB.cell (p := ⟨b, k * 5 + 1, none⟩) hb).trans c1
      replace c2 := (hB.cell (p := ⟨b, k * 5 + 2, none⟩) hb).trans c2
      replace c3 := (hB.cell (p := ⟨b, k * 5 + 3, none⟩) hb).trans c3
      replace c4 := (hB.cell (p := ⟨b, k * 5 + 4, none⟩) hb).trans c4
      replace Q0 := (hB.cell (p := ⟨g, 0, none⟩) Z5).trans Q0
      replace Q1 := (hB.cell (p := ⟨g, 1, none⟩) Z5).trans Q1
      replace Q2 := (hB.cell (p := ⟨g, 2, none⟩) Z5).trans Q2
      replace Q3 := (hB.cell (p := ⟨g, 3, none⟩) Z5).trans Q3
      replace Q4 := (hB.cell (p := ⟨g, 4, none⟩) Z5).trans Q4
      have Z1 : g < wr.heap.size := Nat.lt_of_lt_of_le Z5 hq
      have hqy := HQ.out k
      rw [hg] at hqy
      have hb1 : b < wr.heap.size := Nat.lt_of_lt_of_le hb hq
      have h0 : (0 : Int) ≤ (k : Int) := by omega
      have h1 : (k : Int) < (L.length : Int) := by omega
      clear hc hg
      obtain ⟨y0, y1, y2, y3, y4⟩ := y
      simp only at c0 c1 c2 c3 c4 hqy
      rw [St.eqB] at hqy
      simp only at hqy
      have hE := fun W => run_eq_State y0 x0 y1 y2 y3 y4 x1 x2 x3 x4 W
      rw [show ((x0 == y0) && ((x1 == y1) && ((x2 == y2) && ((x3 == y3) && (x4 == y4))))) = q k by rw [hqy, BEq.comm (a := x0), BEq.comm (a := x1), BEq.comm (a := x2), BEq.comm (a := x3), BEq.comm (a := x4)]] at hE
      cases hqk : q k
      · have H := Lib.hid (fst_miss hr hqk)
        clear hr
        rw [hqk] at hE
        clear hqk hqy
        go_wp2
        (refine wp_region_cls (by kernel_rfl) (by kernel_rfl) ?_; (repeat (go_big_quiet_step (fail))); refine wpQuiet_nil ?_; rintro _ ⟨u, rfl⟩; have hb := u.below; replace hB := hB.trans (hb.mono hB.size); generalize u.w = w' at *; obtain ⟨hc, hf, hs⟩ := bkeep hb; have hq' := hb.size; have hq := hB.size; have hb' := hb; clear hb)
        go_wp2
        go_roundw
        case rel => exact ⟨k + 1, by omega, by go_num, H.out, hB⟩
        case measure => simp [intOf]; omega
      · have hfin : idx q L.length = k := by unfold idx; rw [fst_hit hr hqk hlt, if_pos hlt]
        have H := Lib.hid hfin
        clear hr hfin
        rw [hqk] at hE
        clear hqk hqy
        go_wp2
        (refine wp_region_cls (by kernel_rfl) (by kernel_rfl) ?_; (repeat (go_big_quiet_step (fail))); refine wpQuiet_nil ?_; rintro _ ⟨u, rfl⟩; have hb := u.below; replace hB := hB.trans (hb.mono hB.size); generalize u.w = w' at *; obtain ⟨hc, hf, hs⟩ := bkeep hb; have hq' := hb.size; have hq := hB.size; have hb' := hb; clear hb)
        go_wp2
        go_returns
        exact ⟨by rw [H.out]; rfl, BB.trans (hB.mono BB.size)⟩
    · obtain rfl : k = L.length := by omega
      have hfin : idx q L.length = -1 := by unfold idx; rw [hr, if_neg (by omega)]
      have H := Lib.hid hfin
      clear hr hfin
      go_wp2
      go_returns
      exact ⟨by rw [H.out]; rfl, BB.trans (hB.mono BB.size)⟩

theorem impl_FirstUnsafeState_1 (m : Int) (o a b e : Bool) (w : World) : Calls Try.prog 38 #[.agg #[.int .i64 m, .bool o, .bool a, .bool b, .bool e]] w fun e' w' => e' = .returned (.bool (!isSafe m o e)) ∧ Below w.heap.size w w' := by
  have kS := fun W => impl_isSafeState m o a b e W
  generalize isSafe m o e = R at *
  go_enter Try.func38, Try.ntmps38
  go_wp2_with (go_at_call 39; (with_reducible refine (kS _).mono ?_); rintro e w' ⟨rfl, hb⟩; obtain ⟨hc, hf⟩ := bcell hb; have hz : w.heap.size < w'.heap.size := (by have := hb.size; (try simp at this); omega); have hB : Below w.heap.size w w' := Below.trans (by go_grown) (hb.mono (by go_size)))
  go_returns
  exact ⟨rfl, by go_grown⟩
set_option maxHeartbeats 1000000 in
theorem impl_IndexFunc_unsafe (A : Option Addr) (c : Nat) (L : List St) (w : World) (hz : StsAt w A L) (hn : L.length ≤ 1048576) :
    Calls Try.prog 37 #[.slice A L.length c, .func (.func 38) #[] #[]] w fun e w' => e = .returned (.int .i64 (idx (fun j => !safeS (L.getD j St.zero)) L.length)) ∧ Below w.heap.size w w' := by
  have hq : ∀ j, (fun j => !safeS (L.getD j St.zero)) j = (!safeS (L.getD j St.zero)) := fun _ => rfl
  generalize (fun j => !safeS (L.getD j St.zero)) = q at *
  have HQ := Lib.hid hq
  clear hq
  go_enter Try.func37, Try.ntmps37
  go_wp2
  go_loopw [8] (fun i wr => ∃ k : Nat, k ≤ L.length ∧ i = .int .i64 k ∧ fst q k = k ∧ Below w.heap.size w wr) (fun i _ => L.length - (intOf i).toNat)
  case atStart => exact ⟨0, by omega, rfl, rfl, Below.refl _ _⟩
  case round =>
    obtain ⟨k, hk, rfl, hr, hB⟩ := hrel
    have hq := hB.size
    by_cases hlt : k < L.length
    · obtain ⟨y, hy⟩ : ∃ y, L[k]? = some y := ⟨_, List.getElem?_eq_getElem hlt⟩
      have hg : L.getD k St.zero = y := by rw [List.getD_eq_getElem?_getD, hy]; rfl
      obtain ⟨b, rfl, hb, hc⟩ := hz (by omega)
      obtain ⟨c0, c1, c2, c3, c4⟩ := hc k y hy
      replace c0 := (hB.cell (p := ⟨b, k * 5, none⟩) hb).trans c0
      replace c1 := (hB.cell (p := ⟨b, k * 5 + 1, none⟩) hb).trans c1
      replace c2 := (hB.cell (p := ⟨b, k * 5 + 2, none⟩) hb).trans c2
      replace c3 := (hB.cell (p := ⟨b, k * 5 + 3, none⟩) hb).trans c3
      replace c4 := (hB.cell (p := ⟨b, k * 5 + 4, none⟩) hb).trans c4
      have hqy := HQ.out k
      rw [hg] at hqy
      have hb1 : b < wr.heap.size := Nat.lt_of_lt_of_le hb hq
      have h0 : (0 : Int) ≤ (k : Int) := by omega
      have h1 : (k : Int) < (L.length : Int) := by omega
      clear hc hg
      obtain ⟨y0, y1, y2, y3, y4⟩ := y
      simp only at c0 c1 c2 c3 c4 hqy
      have kF := fun W => impl_FirstUnsafeState_1 y0 y1 y2 y3 y4 W
      rw [show safeS ⟨y0, y1, y2, y3, y4⟩ = isSafe y0 y1 y4 from rfl] at hqy
      cases hqk : q k
      · have H := Lib.hid (fst_miss hr hqk)
        clear hr
        rw [hqk] at hqy
        rw [← hqy] at kF
        clear hqk hqy
        go_wp2_with (go_at_call 38; (with_reducible refine (kF _).mono ?_); rintro e w1 ⟨rfl, hb'⟩; replace hB := hB.trans (hb'.mono hq); clear hb')
        go_roundw
        case rel => exact ⟨k + 1, by omega, by go_num, H.out, hB⟩
        case measure => simp [intOf]; omega
      · have hfin : idx q L.length = k := by unfold idx; rw [fst_hit hr hqk hlt, if_pos hlt]
        have H := Lib.hid hfin
        clear hr hfin
        rw [hqk] at hqy
        rw [← hqy] at kF
        clear hqk hqy
        go_wp2_with (go_at_call 38; (with_reducible refine (kF _).mono ?_); rintro e w1 ⟨rfl, hb'⟩; replace hB := hB.trans (hb'.mono hq); clear hb')
        go_returns
        exact ⟨by rw [H.out]; rfl, hB⟩
    · obtain rfl : k = L.length := by omega
      have hfin : idx q L.length = -1 := by unfold idx; rw [hr, if_neg (by omega)]
      have H := Lib.hid hfin
      clear hr hfin
      go_wp2
      go_returns
      exact ⟨by rw [H.out]; rfl, hB⟩

set_option maxHeartbeats 1000000 in
theorem spec_l15Unsafe (A : Option Addr) (c : Nat) (L : List St) (w : World) (hz : StsAt w A L) (hn : L.length ≤ 1048576) (hall : ∀ y, y ∈ L → y.ok = true) :
    Calls Try.prog 34 #[.slice A L.length c] w fun e w' => e = .returned (.int .i64 (idx (fun j => !safeS (L.getD j St.zero)) L.length)) ∧ Below w.heap.size w w' := by
  have hq : ∀ j, (fun j => !safeS (L.getD j St.zero)) j = (!safeS (L.getD j St.zero)) := fun _ => rfl
  generalize (fun j => !safeS (L.getD j St.zero)) = q at *
  have HQ := Lib.hid hq
  clear hq
  go_enter Try.func34, Try.ntmps34
  go_wp2
  go_loopw [3] (fun i wr => ∃ k : Nat, k ≤ L.length ∧ i = .int .i64 k ∧ fst q k = k ∧ Below w.heap.size w wr) (fun i _ => L.length - (intOf i).toNat)
  case atStart => exact ⟨0, by omega, rfl, rfl, Below.refl _ _⟩
  case round =>
    obtain ⟨k, hk, rfl, hr, hB⟩ := hrel
    have hq := hB.size
    by_cases hlt : k < L.length
    · obtain ⟨y, hy⟩ : ∃ y, L[k]? = some y := ⟨_, List.getElem?_eq_getElem hlt⟩
      have hg : L.getD k St.zero = y := by rw [List.getD_eq_getElem?_getD, hy]; rfl
      obtain ⟨b, rfl, hb, hc⟩ := hz (by omega)
      obtain ⟨c0, c1, c2, c3, c4⟩ := hc k y hy
      replace c0 := (hB.cell (p := ⟨b, k * 5, none⟩) hb).trans c0
      replace c1 := (hB.cell (p := ⟨b, k * 5 + 1, none⟩) hb).trans c1
      replace c2 := (hB.cell (p := ⟨b, k * 5 + 2, none⟩) hb).trans c2
      replace c3 := (hB.cell (p := ⟨b, k * 5 + 3, none⟩) hb).trans c3
      replace c4 := (hB.cell (p := ⟨b, k * 5 + 4, none⟩) hb).trans c4
      have hqy := HQ.out k
      rw [hg] at hqy
      have hb1 : b < wr.heap.size := Nat.lt_of_lt_of_le hb hq
      have h0 : (0 : Int) ≤ (k : Int) := by omega
      have h1 : (k : Int) < (L.length : Int) := by omega
      clear hc hg
      obtain ⟨y0, y1, y2, y3, y4⟩ := y
      simp only at c0 c1 c2 c3 c4 hqy
      have kF := fun W => spec_IsSafeState y0 y1 y2 y3 y4 W
      rw [show safeS ⟨y0, y1, y2, y3, y4⟩ = isSafe y0 y1 y4 from rfl] at hqy
      cases hqk : q k
      · have H := Lib.hid (fst_miss hr hqk)
        clear hr
        rw [hqk] at hqy
        have hok := hall _ (List.mem_of_getElem? hy)
        rw [show inB y0 0 4 = true from hok, Bool.true_and, show isSafe y0 y1 y4 = true by simpa using hqy.symm] at kF
        clear hqk hqy
        go_wp2_with (go_at_call 55; (with_reducible refine (kF _).mono ?_); rintro e w1 ⟨rfl, hb'⟩; replace hB := hB.trans (hb'.mono hq); clear hb')
        go_roundw
        case rel => exact ⟨k + 1, by omega, by go_num, H.out, hB⟩
        case measure => simp [intOf]; omega
      · have hfin : idx q L.length = k := by unfold idx; rw [fst_hit hr hqk hlt, if_pos hlt]
        have H := Lib.hid hfin
        clear hr hfin
        rw [hqk] at hqy
        have hok := hall _ (List.mem_of_getElem? hy)
        rw [show inB y0 0 4 = true from hok, Bool.true_and, show isSafe y0 y1 y4 = false by simpa using hqy.symm] at kF
        clear hqk hqy
        go_wp2_with (go_at_call 55; (with_reducible refine (kF _).mono ?_); rintro e w1 ⟨rfl, hb'⟩; replace hB := hB.trans (hb'.mono hq); clear hb')
        go_returns
        exact ⟨by rw [H.out]; rfl, hB⟩
    · obtain rfl : k = L.length := by omega
      have hfin : idx q L.length = -1 := by unfold idx; rw [hr, if_neg (by omega)]
      have H := Lib.hid hfin
      clear hr hfin
      go_wp2
      go_returns
      exact ⟨by rw [H.out]; rfl, hB⟩

end Go.Proofs.Ytjfpiadjbhnljaa
