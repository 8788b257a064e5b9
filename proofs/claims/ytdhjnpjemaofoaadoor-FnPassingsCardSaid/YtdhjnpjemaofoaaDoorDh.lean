/-
  Contracts: what the law of the doors asks besides: numbers that rise, equal doors, one door that may leave.
-/
import Derived.Test.YtdhjnpjemaofoaaDoorPdo
import Derived.Test.YtdhjnpjemaofoaaDoorKE2
import Derived.Test.YtdhjnpjemaofoaaDoorDb
import Derived.Test.YtdhjnpjemaofoaaDoorKW
import Derived.Deep.DeepCutAuto
import Derived.Lib.Hide
import Derived.Laws.StructEq
namespace Go.Proofs.YtdhjnpjemaofoaaDoor
open Go.RowKit
set_option linter.unusedVariables false
set_option linter.unusedSimpArgs false

/-- The slice's first n cells are numbers, and its block lies below block B. -/
def IntsLt (w : World) (a : Option Addr) (n : Nat) (Z : Nat → Int) (B : Nat) : Prop := 0 < n → ∃ b o, a = some ⟨b, o, none⟩ ∧ b < B ∧ ∀ j, j < n → w.cell? ⟨b, o + j, none⟩ = some (.int .i64 (Z j))
theorem intsLt_of {w : World} {a : Option Addr} {n : Nat} {Z : Nat → Int} (h : IntsAt w a n Z) : IntsLt w a n Z w.heap.size := fun hn => by
  obtain ⟨b, o, e, hb, hc⟩ := h hn
  exact ⟨b, o, e, hb, hc⟩
theorem IntsLt.below {w w' : World} {a : Option Addr} {n B : Nat} {Z : Nat → Int} (h : IntsLt w a n Z B) (k : Below B w w') : IntsLt w' a n Z B := fun hn => by
  obtain ⟨b, o, e, hb, hc⟩ := h hn
  exact ⟨b, o, e, hb, fun j hj => (k.cell (p := ⟨b, o + j, none⟩) hb).trans (hc j hj)⟩
theorem IntsLt.ints {w : World} {a : Option Addr} {n B : Nat} {Z : Nat → Int} (h : IntsLt w a n Z B) (hB : B ≤ w.heap.size) : IntsAt w a n Z := fun hn => by
  obtain ⟨b, o, e, hb, hc⟩ := h hn
  exact ⟨b, o, e, Nat.lt_of_lt_of_le hb hB, hc⟩
theorem Row3.lowB {w w' : World} {g B : Nat} {x y z : Value} (h : Row3 w g x y z) (k : Below B w w') (hg : g < B) : Row3 w' g x y z :=
  ⟨(k.cell (p := ⟨g, 0, none⟩) hg).trans h.c0, (k.cell (p := ⟨g, 1, none⟩) hg).trans h.c1, (k.cell (p := ⟨g, 2, none⟩) hg).trans h.c2,
   (k.frozen (p := ⟨g, 0, none⟩) hg).trans h.f0, (k.frozen (p := ⟨g, 1, none⟩) hg).trans h.f1, (k.frozen (p := ⟨g, 2, none⟩) hg).trans h.f2, Nat.lt_of_lt_of_le h.lt k.size⟩

theorem run_eq_Door (x0 x1 x2 y0 y1 y2 : Int) (W : World) :
    (binOp .eql 25 (.agg #[.int .i64 y0, .int .i64 y1, .int .i64 y2]) (.agg #[.int .i64 x0, .int .i64 x1, .int .i64 x2])).run Tryd.prog W = .ok (.bool ((y0 == x0) && ((y1 == x1) && (y2 == x2)))) W := by
  rw [run_eql_struct]
  generalize hd : 10000 = D
  obtain ⟨d, rfl⟩ : ∃ d, D = d + 1 + 1 := ⟨9998, by omega⟩
  rw [run_equalIn_agg (d := d + 1) (ht := by kernel_rfl) (hp := by kernel_rfl)]
  simp only [Program.fieldsOf, Tryd.underlying25]
  clear hd
  have u2 := Tryd.underlying2
  go_simp
  repeat' split
  all_goals simp [*]
theorem run_neq_Door (x0 x1 x2 y0 y1 y2 : Int) (W : World) :
    (binOp .neq 25 (.agg #[.int .i64 y0, .int .i64 y1, .int .i64 y2]) (.agg #[.int .i64 x0, .int .i64 x1, .int .i64 x2])).run Tryd.prog W = .ok (.bool (!((y0 == x0) && ((y1 == x1) && (y2 == x2))))) W := by
  rw [run_neq_struct]
  generalize hd : 10000 = D
  obtain ⟨d, rfl⟩ : ∃ d, D = d + 1 + 1 := ⟨9998, by omega⟩
  rw [run_equalIn_agg (d := d + 1) (ht := by kernel_rfl) (hp := by kernel_rfl)]
  simp only [Program.fieldsOf, Tryd.underlying25]
  clear hd
  have u2 := Tryd.underlying2
  go_simp
  repeat' split
  all_goals simp [*]
theorem run_eq_Door_same (x0 x1 x2 : Int) (W : World) :
    (binOp .eql 25 (.agg #[.int .i64 x0, .int .i64 x1, .int .i64 x2]) (.agg #[.int .i64 x0, .int .i64 x1, .int .i64 x2])).run Tryd.prog W = .ok (.bool true) W := by
  rw [run_eq_Door]; simp
theorem run_neq_Door_same (x0 x1 x2 : Int) (W : World) :
    (binOp .neq 25 (.agg #[.int .i64 x0, .int .i64 x1, .int .i64 x2]) (.agg #[.int .i64 x0, .int .i64 x1, .int .i64 x2])).run Tryd.prog W = .ok (.bool false) W := by
  rw [run_neq_Door]; simp
theorem may_one {p k r : Int} (h : validDoor p k r = true) (t : Int) : mayV (fun _ => p) (fun _ => k) (fun _ => r) 1 t = ((t == 1) && (p == 0)) := by
  unfold mayV
  have : any (fun j : Nat => badDoor p k r) 1 = badDoor p k r := by
    cases hb : badDoor p k r
    · exact any_false.2 (fun j _ => rfl)
    · exact any_true.2 ⟨0, by omega, rfl⟩
  rw [this]
  unfold badDoor
  rw [h]
  cases h2 : (p == 0) <;> cases h3 : (t == 1) <;> simp_all
theorem impl_MayLeave_one (g : Nat) (c : Nat) (p k r t : Int) (w : World) (h : validDoor p k r = true) (hg : g < w.heap.size) (c0 : w.cell? ⟨g, 0, none⟩ = some (.int .i64 p)) (c1 : w.cell? ⟨g, 1, none⟩ = some (.int .i64 k)) (c2 : w.cell? ⟨g, 2, none⟩ = some (.int .i64 r)) :
    Calls Tryd.prog 13 #[.slice (some ⟨g, 0, none⟩) 1 c, .int .i64 t] w fun e w' => e = .returned (.bool ((t == 1) && (p == 0))) ∧ Below w.heap.size w w' := by
  rw [← may_one h]
  refine impl_MayLeave _ 1 c _ _ _ t w (fun _ => ⟨g, 0, rfl, hg, fun j hj => ?_⟩) (by omega)
  obtain rfl : j = 0 := by omega
  exact ⟨c0, c1, c2⟩
theorem impl_MayLeave_yes (g : Nat) (c : Nat) (p k r : Int) (B : Bool) (w : World) (h : validDoor p k r = true) (hB : (p == 0) = B) (hg : g < w.heap.size) (c0 : w.cell? ⟨g, 0, none⟩ = some (.int .i64 p)) (c1 : w.cell? ⟨g, 1, none⟩ = some (.int .i64 k)) (c2 : w.cell? ⟨g, 2, none⟩ = some (.int .i64 r)) :
    Calls Tryd.prog 13 #[.slice (some ⟨g, 0, none⟩) 1 c, .int .i64 1] w fun e w' => e = .returned (.bool B) ∧ Below w.heap.size w w' := by
  have := impl_MayLeave_one g c p k r 1 w h hg c0 c1 c2
  rw [hB] at this
  simpa using this
theorem impl_MayLeave_no (g : Nat) (c : Nat) (p k r : Int) (w : World) (h : validDoor p k r = true) (hg : g < w.heap.size) (c0 : w.cell? ⟨g, 0, none⟩ = some (.int .i64 p)) (c1 : w.cell? ⟨g, 1, none⟩ = some (.int .i64 k)) (c2 : w.cell? ⟨g, 2, none⟩ = some (.int .i64 r)) :
    Calls Tryd.prog 13 #[.slice (some ⟨g, 0, none⟩) 1 c, .int .i64 0] w fun e w' => e = .returned (.bool false) ∧ Below w.heap.size w w' := by
  have := impl_MayLeave_one g c p k r 0 w h hg c0 c1 c2
  simpa using this
theorem impl_MayLeave_none (t : Int) (w : World) :
    Calls Tryd.prog 13 #[.slice none 0 0, .int .i64 t] w fun e w' => e = .returned (.bool false) ∧ Below w.heap.size w w' :=
  impl_MayLeave none 0 0 (fun _ => 0) (fun _ => 0) (fun _ => 0) t w (fun h => absurd h (by omega)) (by omega)

set_option maxHeartbeats 1000000 in
theorem laws_b10Rises (a : Option Addr) (n c : Nat) (Z : Nat → Int) (m : Nat) (w : World) (hz : IntsAt w a n Z) (hn : n ≤ 1048576) (hm : m ≤ 1048576) (hr : risesB Z m n) :
    Calls Tryd.prog 9 #[.slice a n c, .int .i64 (m : Int)] w fun e w' => e = .returned (.bool true) ∧ Below w.heap.size w w' := by
  have HR := Lib.hid hr
  clear hr
  go_enter Tryd.func9, Tryd.ntmps9
  go_wp2
  go_loopw [5] (fun i wr => ∃ k : Nat, k ≤ n ∧ i = .int .i64 (k : Int) ∧ IntsAt wr a n Z ∧ Below w.heap.size w wr) (fun i _ => n - (intOf i).toNat)
  case atStart => exact ⟨0, by omega, rfl, hz, Below.refl _ _⟩
  case round =>
    clear hz
    obtain ⟨k, hk, rfl, hz, hB⟩ := hrel
    by_cases hlt : k < n
    · obtain ⟨b, o, rfl, hb, hc⟩ := id hz (by omega)
      obtain ⟨h1, h2, h3⟩ := HR.out k hlt
      have ck := hc k hlt
      have k0 : (k : Int) < (n : Int) := by omega
      by_cases hk0 : 0 < k
      · have h3 := h3 hk0
        have cp := hc (k - 1) (by omega)
        have k1 : (0 : Int) < (k : Int) := by omega
        have e1 : wrap64 ((k : Int) - 1) = ((k - 1 : Nat) : Int) := by unfold wrap64; omega
        have e2 : (k : Int) - 1 = ((k - 1 : Nat) : Int) := by omega
        clear hc
        generalize Z k = zk at *
        generalize Z (k - 1) = zp at *
        generalize hq : k - 1 = q at *
        have q0 : (q : Int) < (n : Int) := by omega
        have g1 : ¬ zk < 0 := by omega
        have g2 : ¬ (m : Int) ≤ zk := by omega
        have d1 : decide (zk < 0) = false := decide_eq_false g1
        have d2 : decide ((m : Int) ≤ zk) = false := decide_eq_false (by omega)
        have d3 : decide ((0 : Int) < (k : Int)) = true := decide_eq_true k1
        have g4 : ¬ zk ≤ zp := by omega
        have d4 : decide (zk ≤ zp) = false := decide_eq_false g4
        go_upto_region 4 with fail
        (refine wp_region_cls (by kernel_rfl) (by kernel_rfl) ?_; (repeat (go_big_quiet_step (fail))); refine wpQuiet_nil ?_; rintro _ ⟨u, rfl⟩; have hb := u.below; replace hB := hB.trans (hb.mono hB.size); generalize u.w = w' at *; obtain ⟨hc, hf, hs⟩ := bkeep hb; have hq' := hb.size; have hq := hB.size; have hb' := hb; clear hb)
        have hz2 := hz.below hb'
        clear hz hb' hc hf hs ck cp hq
        go_wp2
        go_roundw
        case rel => exact ⟨k + 1, by omega, by go_num, hz2, hB⟩
        case measure => simp [intOf]; omega
      · have k1 : ¬ (0 : Int) < (k : Int) := by omega
        clear hc
        generalize Z k = zk at *
        have g1 : ¬ zk < 0 := by omega
        have g2 : ¬ (m : Int) ≤ zk := by omega
        have d1 : decide (zk < 0) = false := decide_eq_false g1
        have d2 : decide ((m : Int) ≤ zk) = false := decide_eq_false (by omega)
        have d3 : decide ((0 : Int) < (k : Int)) = false := decide_eq_false k1
        go_upto_region 4 with fail
        (refine wp_region_cls (by kernel_rfl) (by kernel_rfl) ?_; (repeat (go_big_quiet_step (fail))); refine wpQuiet_nil ?_; rintro _ ⟨u, rfl⟩; have hb := u.below; replace hB := hB.trans (hb.mono hB.size); generalize u.w = w' at *; obtain ⟨hc, hf, hs⟩ := bkeep hb; have hq' := hb.size; have hq := hB.size; have hb' := hb; clear hb)
        have hz2 := hz.below hb'
        clear hz hb' hc hf hs ck
        go_wp2
        go_roundw
        case rel => exact ⟨k + 1, by omega, by go_num, hz2, hB⟩
        case measure => simp [intOf]; omega
    · obtain rfl : k = n := by omega
      go_wp2
      go_returns
      exact ⟨rfl, hB⟩

end Go.Proofs.YtdhjnpjemaofoaaDoor
