/-
  Plain parts, merged.
-/
import Derived.WalkKit
import Derived.Below
import Derived.Test.YtejhngkbkcalaaaRows
import Derived.Handy
import Derived.WalkLawsBesides
import Derived.WalkSpells
import Derived.Outline
import Derived.BigGuardPart
import Derived.Deep.QuietTactic
import Derived.BigQuiet
import Derived.Deep.RegionHeld3
import Derived.LoopTactic
import Derived.Laws.Rows
import Derived.Deep.OwnRows
import Derived.Laws.OwnMore
import Derived.Lib.Atoi
import Derived.Lib.ItoaNum
namespace Go.Proofs.Ytejhngkbkcalaaa
open Go.RowKit

def inB (n a b : Int) : Bool := decide (a ≤ n) && decide (n ≤ b)
theorem inB_true {n a b : Int} : inB n a b = true ↔ a ≤ n ∧ n ≤ b := by simp [inB]
theorem inB_false {n a b : Int} : inB n a b = false ↔ ¬ (a ≤ n ∧ n ≤ b) := by rw [← inB_true]; simp
theorem bcell {W w1 : World} (hb : Below W.heap.size W w1) : (∀ b o, b < W.heap.size → w1.cell? ⟨b, o, none⟩ = W.cell? ⟨b, o, none⟩) ∧ (∀ b o, b < W.heap.size → w1.frozen? ⟨b, o, none⟩ = W.frozen? ⟨b, o, none⟩) :=
  ⟨fun b o h => hb.cell (p := ⟨b, o, none⟩) h, fun b o h => hb.frozen (p := ⟨b, o, none⟩) h⟩

/-! brakes -/
def validBrake (d f : Int) : Bool := inB d 0 100 && inB f 1 10000

/-! doors -/
def doorName (p : Int) : ByteArray := if p = 0 then ⟨#[115, 104, 117, 116]⟩ else if p = 1 then ⟨#[111, 112, 101, 110, 105, 110, 103]⟩ else if p = 2 then ⟨#[111, 112, 101, 110]⟩ else if p = 3 then ⟨#[115, 104, 117, 116, 116, 105, 110, 103]⟩ else ⟨#[]⟩
theorem doorName_out {p : Int} (h : ¬ (0 ≤ p ∧ p ≤ 3)) : doorName p = ⟨#[]⟩ := by unfold doorName; repeat rw [if_neg (by omega)]
def moves (p : Int) : Bool := (p == 1) || (p == 3)
def validDoor (p k r : Int) : Bool := inB p 0 3 && (if moves p = true then inB k 0 2 && inB r 0 3 else (k == 0) && (r == 0))

/-! controller -/
def modeName (p : Int) : ByteArray := if p = 0 then ⟨#[115, 116, 111, 112]⟩ else if p = 1 then ⟨#[114, 101, 97, 100, 121]⟩ else if p = 2 then ⟨#[114, 117, 110]⟩ else if p = 3 then ⟨#[99, 114, 101, 101, 112]⟩ else if p = 4 then ⟨#[102, 97, 117, 108, 116]⟩ else ⟨#[]⟩
theorem modeName_out {p : Int} (h : ¬ (0 ≤ p ∧ p ≤ 4)) : modeName p = ⟨#[]⟩ := by unfold modeName; repeat rw [if_neg (by omega)]
def eventName (p : Int) : ByteArray := if p = 1 then ⟨#[111, 112, 101, 110]⟩ else if p = 2 then ⟨#[99, 108, 111, 115, 101]⟩ else if p = 3 then ⟨#[114, 101, 97, 100, 121, 45, 97]⟩ else if p = 4 then ⟨#[114, 101, 97, 100, 121, 45, 98]⟩ else if p = 5 then ⟨#[115, 116, 97, 114, 116]⟩ else if p = 6 then ⟨#[110, 101, 97, 114]⟩ else if p = 7 then ⟨#[97, 114, 114, 105, 118, 101]⟩ else if p = 8 then ⟨#[102, 97, 117, 108, 116]⟩ else if p = 9 then ⟨#[114, 101, 115, 101, 116]⟩ else ⟨#[]⟩
theorem eventName_out {p : Int} (h : ¬ (1 ≤ p ∧ p ≤ 9)) : eventName p = ⟨#[]⟩ := by unfold eventName; repeat rw [if_neg (by omega)]
def isSafe (m : Int) (o e : Bool) : Bool := (decide (m ≠ 2) && decide (m ≠ 3)) || (!o && !e)
def sgn (b : Bool) (c : ByteArray) : ByteArray := if b = true then c else ⟨#[45]⟩
def stateText (m : Int) (o a b e : Bool) : ByteArray := modeName m ++ ⟨#[32]⟩ ++ sgn o ⟨#[111]⟩ ++ sgn a ⟨#[97]⟩ ++ sgn b ⟨#[98]⟩ ++ sgn e ⟨#[101]⟩
theorem modeName_size (p : Int) : (modeName p).size ≤ 5 := by
  unfold modeName; repeat' split
  all_goals decide
theorem sgn_size (b : Bool) {c : ByteArray} (h : c.size = 1) : (sgn b c).size = 1 := by
  unfold sgn; split
  · exact h
  · decide
theorem sz1 (x : UInt8) : (⟨#[x]⟩ : ByteArray).size = 1 := rfl
theorem stateText_adds {P : Program} (m : Int) (o a b e : Bool) :
    (∀ w, (Op.stringOp .add (modeName m) ⟨#[32]⟩).run P w = .ok (.string (modeName m ++ ⟨#[32]⟩)) w) ∧
    (∀ w, (Op.stringOp .add (modeName m ++ ⟨#[32]⟩) (sgn o ⟨#[111]⟩)).run P w = .ok (.string (modeName m ++ ⟨#[32]⟩ ++ sgn o ⟨#[111]⟩)) w) ∧
    (∀ w, (Op.stringOp .add (modeName m ++ ⟨#[32]⟩ ++ sgn o ⟨#[111]⟩) (sgn a ⟨#[97]⟩)).run P w = .ok (.string (modeName m ++ ⟨#[32]⟩ ++ sgn o ⟨#[111]⟩ ++ sgn a ⟨#[97]⟩)) w) ∧
    (∀ w, (Op.stringOp .add (modeName m ++ ⟨#[32]⟩ ++ sgn o ⟨#[111]⟩ ++ sgn a ⟨#[97]⟩) (sgn b ⟨#[98]⟩)).run P w = .ok (.string (modeName m ++ ⟨#[32]⟩ ++ sgn o ⟨#[111]⟩ ++ sgn a ⟨#[97]⟩ ++ sgn b ⟨#[98]⟩)) w) ∧
    (∀ w, (Op.stringOp .add (modeName m ++ ⟨#[32]⟩ ++ sgn o ⟨#[111]⟩ ++ sgn a ⟨#[97]⟩ ++ sgn b ⟨#[98]⟩) (sgn e ⟨#[101]⟩)).run P w = .ok (.string (modeName m ++ ⟨#[32]⟩ ++ sgn o ⟨#[111]⟩ ++ sgn a ⟨#[97]⟩ ++ sgn b ⟨#[98]⟩ ++ sgn e ⟨#[101]⟩)) w) := by
  have h1 := modeName_size m
  have h2 := sgn_size o (sz1 111)
  have h3 := sgn_size a (sz1 97)
  have h4 := sgn_size b (sz1 98)
  have h5 := sgn_size e (sz1 101)
  refine ⟨?_, ?_, ?_, ?_, ?_⟩ <;> intro w <;> refine run_string_add_sum w _ _ ?_ <;> simp only [ByteArray.size_append, sz1] <;> omega
end Go.Proofs.Ytejhngkbkcalaaa
/-
  Contracts of small functions of the program.
-/
namespace Go.Proofs.Ytejhngkbkcalaaa
open Go.RowKit


theorem impl_within (n a b : Int) (w : World) : Calls Try.prog 25 #[.int .i64 n, .int .i64 a, .int .i64 b] w fun e w' => e = .returned (.bool (inB n a b)) ∧ w = w' := by
  by_cases h1 : a ≤ n <;> by_cases h2 : n ≤ b
  all_goals
    go_enter Try.func25, Try.ntmps25
    go_wp2
    go_ret
    exact ⟨by simp [inB, *] <;> omega, rfl⟩

theorem spec_l00In (n a b : Int) (w : World) : Calls Try.prog 55 #[.int .i64 n, .int .i64 a, .int .i64 b] w fun e w' => e = .returned (.bool (inB n a b)) ∧ w = w' := by
  by_cases h1 : a ≤ n <;> by_cases h2 : n ≤ b
  all_goals
    go_enter Try.func55, Try.ntmps55
    go_wp2
    go_ret
    exact ⟨by simp [inB, *] <;> omega, rfl⟩

end Go.Proofs.Ytejhngkbkcalaaa
/-
  Contracts of more functions that ask whether a number lies in a range.
-/
namespace Go.Proofs.Ytejhngkbkcalaaa
open Go.RowKit
set_option linter.unusedVariables false
set_option linter.unusedSimpArgs false


theorem impl_isForce (n : Int) (w : World) : Calls Try.prog 23 #[.int .i64 n] w fun e w' => e = .returned (.bool (inB n (-1000000) 1000000)) ∧ w = w' := by
  go_enter Try.func23, Try.ntmps23
  go_wp2_with (go_at_call 25; go_call impl_within as e w' ⟨rfl, rfl⟩)
  go_returns
  exact ⟨rfl, rfl⟩

theorem impl_isPace (n : Int) (w : World) : Calls Try.prog 24 #[.int .i64 n] w fun e w' => e = .returned (.bool (inB n 0 20000)) ∧ w = w' := by
  go_enter Try.func24, Try.ntmps24
  go_wp2_with (go_at_call 25; go_call impl_within as e w' ⟨rfl, rfl⟩)
  go_returns
  exact ⟨rfl, rfl⟩

theorem impl_isShare (n : Int) (w : World) : Calls Try.prog 44 #[.int .i64 n] w fun e w' => e = .returned (.bool (inB n 0 1000)) ∧ w = w' := by
  go_enter Try.func44, Try.ntmps44
  go_wp2_with (go_at_call 25; go_call impl_within as e w' ⟨rfl, rfl⟩)
  go_returns
  exact ⟨rfl, rfl⟩

theorem spec_l10Force (n : Int) (w : World) : Calls Try.prog 30 #[.int .i64 n] w fun e w' => e = .returned (.bool (inB n (-1000000) 1000000)) ∧ w = w' := by
  go_enter Try.func30, Try.ntmps30
  go_wp2_with (go_at_call 55; go_call spec_l00In as e w' ⟨rfl, rfl⟩)
  go_returns
  exact ⟨rfl, rfl⟩

theorem spec_l10Speed (n : Int) (w : World) : Calls Try.prog 31 #[.int .i64 n] w fun e w' => e = .returned (.bool (inB n 0 20000)) ∧ w = w' := by
  go_enter Try.func31, Try.ntmps31
  go_wp2_with (go_at_call 55; go_call spec_l00In as e w' ⟨rfl, rfl⟩)
  go_returns
  exact ⟨rfl, rfl⟩

end Go.Proofs.Ytejhngkbkcalaaa
/-
  A region that draws its order, whose operations read and whose calls may make memory: one walk, over the class of all worlds that are as w was below its own blocks.
-/
namespace Go.Proofs.Ytejhngkbkcalaaa
open Go.RowKit
set_option linter.unusedVariables false
set_option linter.unusedSimpArgs false

/-- All worlds that are as w was, below w's own size. -/
def Cls (w : World) : Type := { W : World // Below w.heap.size w W }
def Cls.w {w : World} (u : Cls w) : World := u.1
theorem Cls.below {w : World} (u : Cls w) : Below w.heap.size w u.w := u.2
instance (w : World) : Nonempty (Cls w) := ⟨⟨w, Below.refl _ _⟩⟩
@[go_sem] theorem cls_cell (w : World) : ∀ (u : Cls w) (b o : Nat), b < w.heap.size → u.w.cell? ⟨b, o, none⟩ = w.cell? ⟨b, o, none⟩ := fun u b o h => u.below.cell (p := ⟨b, o, none⟩) h

/-- What a callee that makes memory leaves: rules of the walk, each under 'b was there before'. -/
theorem bkeep {W w1 : World} (hb : Below W.heap.size W w1) : (∀ b o, b < W.heap.size → w1.cell? ⟨b, o, none⟩ = W.cell? ⟨b, o, none⟩) ∧ (∀ b o, b < W.heap.size → w1.frozen? ⟨b, o, none⟩ = W.frozen? ⟨b, o, none⟩) ∧ (∀ b, b < W.heap.size → b < w1.heap.size) :=
  ⟨fun b o h => hb.cell (p := ⟨b, o, none⟩) h, fun b o h => hb.frozen (p := ⟨b, o, none⟩) h, fun b h => Nat.lt_of_lt_of_le h hb.size⟩

section
variable {w : World} {b g k o : Nat} {u v : Value} {O : Obj} {B : Nat} {a : World}
theorem cell_far (h : w.cell? ⟨b, k, none⟩ = some v) (hne : b ≠ g) : (w.setCell ⟨g, o, none⟩ u).cell? ⟨b, k, none⟩ = some v :=
  (World.cell?_setCell_other w _ _ u (fun e => hne (by injection e with e1; exact e1.symm))).trans h
theorem cell_same {x : Value} (h : w.cell? ⟨g, o, none⟩ = some x) : (w.setCell ⟨g, o, none⟩ u).cell? ⟨g, o, none⟩ = some u :=
  World.cell?_setCell_same w _ u h
theorem cell_off (h : w.cell? ⟨b, k, none⟩ = some v) (hne : k ≠ o) : (w.setCell ⟨g, o, none⟩ u).cell? ⟨b, k, none⟩ = some v :=
  (World.cell?_setCell_other w _ _ u (fun e => hne (by injection e with e1 e2; exact e2.symm))).trans h
theorem cell_old (h : w.cell? ⟨b, k, none⟩ = some v) (hlt : b < w.heap.size) : (w.alloc O).cell? ⟨b, k, none⟩ = some v :=
  (World.cell?_alloc_lt w O _ hlt).trans h
theorem cell_drew (h : w.cell? ⟨b, k, none⟩ = some v) : w.drew.cell? ⟨b, k, none⟩ = some v := h
theorem lt_set (h : b < w.heap.size) : b < (w.setCell ⟨g, o, none⟩ u).heap.size := by simpa [World.setCell] using h
theorem lt_alloc (h : b < w.heap.size) : b < (w.alloc O).heap.size := by simp; omega
theorem lt_drew (h : b < w.heap.size) : b < w.drew.heap.size := h
theorem below_set (h : Below B a w) (hg : B ≤ g) : Below B a (w.setCell ⟨g, o, none⟩ u) := Below.setCell h (p := ⟨g, o, none⟩) hg u
end

section
variable {P : Program} {f : FuncId} {args : Array Value} {w : World} {v : Value}
/-- A contract of a callee that makes memory. -/
theorem cls_B {u : Cls w} (c : Calls P f args u.w fun e w' => e = .returned v ∧ Below u.w.heap.size u.w w') : Calls P f args u.w fun e w'' => e = .returned v ∧ ∃ u' : Cls w, w'' = u'.w :=
  c.mono fun _ w' ⟨he, hb⟩ => ⟨he, ⟨w', u.below.trans (hb.mono u.below.size)⟩, rfl⟩
/-- A contract of a callee that leaves the world. -/
theorem cls_S {u : Cls w} (c : Calls P f args u.w fun e w' => e = .returned v ∧ u.w = w') : Calls P f args u.w fun e w'' => e = .returned v ∧ ∃ u' : Cls w, w'' = u'.w :=
  c.mono fun _ _ ⟨he, hw⟩ => ⟨he, u, hw.symm⟩
theorem wp_region_cls {id : Nat} {Q : Exit → Act → World → Prop} {a : Act} {l : List Oper} (hm : P.follows .mixedOrders = true) (hB : Region.lexB .any l.toArray = true)
    (h : wpQuiet P l.toArray (fun w' => ∃ u : Cls w, w' = u.w) (fun a' => ∀ w', (∃ u : Cls w, w' = u.w) → Q .normal a' w') l a) : (Code.region id l.toArray true).wp P Q a w :=
  wp_region_quiet (C := fun w' => ∃ u : Cls w, w' = u.w) hm hB ⟨⟨_, (Below.refl _ _).drew⟩, rfl⟩ (by simpa using h)
/-- Quiet contracts under draws, for 'w = w''. -/
theorem quiet_S {n : Nat} (h : Calls P f args (w.drewN n) fun e w' => e = .returned v ∧ w.drewN n = w') : Calls P f args (w.drewN n) fun e w'' => e = .returned v ∧ ∃ m, w'' = w.drewN m :=
  h.mono fun _ _ ⟨he, hm⟩ => ⟨he, n, hm.symm⟩
end
/-- In the midst of a region: from here on a stronger condition on the world is held. -/
theorem wpAnyH_mono {P : Program} {md : Region.Mode} {ops : Array Oper} {Q : Exit → Act → World → Prop} {S S' : World → Prop} (h : ∀ w, S' w → S w) :
    ∀ (fuel : Nat) (listed : Array Bool) (a : Act) (w : World), wpAnyH P md ops Q S' fuel listed a w → wpAnyH P md ops Q S fuel listed a w
  | 0, _, _, _, hh => hh
  | fuel + 1, _, _, _, hh => ⟨hh.1, fun i hi => wpOp_mono (fun a' w' h' => ⟨h w' h'.1, wpAnyH_mono h fuel _ a' w' h'.2⟩) (hh.2 i hi)⟩
end Go.Proofs.Ytejhngkbkcalaaa
/-
  Slices of numbers as the walk sees them: a length and a function; plain functions over them. No program in sight.
-/
namespace Go.Proofs.Ytejhngkbkcalaaa
open Go.RowKit
set_option linter.unusedVariables false
set_option linter.unusedSimpArgs false

/-- The slice value '.slice a n c' holds the numbers Z 0 .. Z (n - 1). -/
def IntsAt (w : World) (a : Option Addr) (n : Nat) (Z : Nat → Int) : Prop :=
  0 < n → ∃ b o, a = some ⟨b, o, none⟩ ∧ b < w.heap.size ∧ ∀ j, j < n → w.cell? ⟨b, o + j, none⟩ = some (.int .i64 (Z j))
theorem IntsAt.below {w w' : World} {a : Option Addr} {n : Nat} {Z : Nat → Int} (h : IntsAt w a n Z) (hb : Below w.heap.size w w') : IntsAt w' a n Z := fun hn => by
  obtain ⟨b, o, rfl, hlt, hc⟩ := h hn
  exact ⟨b, o, rfl, Nat.lt_of_lt_of_le hlt hb.size, fun j hj => (hb.cell (p := ⟨b, o + j, none⟩) hlt).trans (hc j hj)⟩
theorem IntsAt.cong {w : World} {a : Option Addr} {n : Nat} {Z Z' : Nat → Int} (h : IntsAt w a n Z) (hz : ∀ j, j < n → Z j = Z' j) : IntsAt w a n Z' := fun hn => by
  obtain ⟨b, o, rfl, hlt, hc⟩ := h hn
  exact ⟨b, o, rfl, hlt, fun j hj => by rw [← hz j hj]; exact hc j hj⟩

/-- Block g of w is a row of the n numbers Z 0 .. Z (n - 1), none frozen. -/
def RowAt (w : World) (g n : Nat) (t : TypeId) (Z : Nat → Int) : Prop := w.heap[g]? = some (.cells ⟨(List.range n).map fun j => Value.int .i64 (Z j)⟩ t (0, 0))
theorem RowAt.lt {w : World} {g n : Nat} {t : TypeId} {Z : Nat → Int} (h : RowAt w g n t Z) : g < w.heap.size := by
  rcases Nat.lt_or_ge g w.heap.size with h1 | h1
  · exact h1
  · unfold RowAt at h; rw [Array.getElem?_eq_none h1] at h; cases h
theorem RowAt.below {w w' : World} {g n : Nat} {t : TypeId} {Z : Nat → Int} (h : RowAt w g n t Z) (hb : Below w.heap.size w w') : RowAt w' g n t Z := (hb.block g h.lt).trans h
theorem RowAt.cell {w : World} {g n : Nat} {t : TypeId} {Z : Nat → Int} (h : RowAt w g n t Z) {j : Nat} (hj : j < n) : w.cell? ⟨g, j, none⟩ = some (.int .i64 (Z j)) := by
  have := cell_of_row w g j _ t (0, 0) h
  rw [this]
  simp [hj]
theorem RowAt.ints {w : World} {g n : Nat} {t : TypeId} {Z : Nat → Int} (h : RowAt w g n t Z) : IntsAt w (some ⟨g, 0, none⟩) n Z :=
  fun _ => ⟨g, 0, rfl, h.lt, fun j hj => by rw [Nat.zero_add]; exact h.cell hj⟩
/-- What a row of zeros becomes, number by number. -/
def partly (Z : Nat → Int) (k n : Nat) : List Value := (List.range n).map fun j => Value.int .i64 (if j < k then Z j else 0)
theorem partly_len (Z : Nat → Int) (k n : Nat) : (partly Z k n).length = n := by simp [partly]
theorem partly_zero (Z : Nat → Int) (n : Nat) : partly Z 0 n = List.replicate n (.int .i64 0) := by
  unfold partly
  apply List.ext_getElem
  · simp
  · intro i h1 h2; simp
theorem made_zero (Z : Nat → Int) (n : Nat) : madeCells #[.int .i64 0] n = ⟨partly Z 0 n⟩ := by
  rw [partly_zero, ← toList_madeCells_one]
theorem partly_full (Z : Nat → Int) (n : Nat) : partly Z n n = (List.range n).map fun j => Value.int .i64 (Z j) := by
  unfold partly
  apply List.map_congr_left
  intro j hj
  rw [if_pos (List.mem_range.1 hj)]
theorem partly_set (Z : Nat → Int) {k n : Nat} (hk : k < n) : (partly Z k n).set k (.int .i64 (Z k)) = partly Z (k + 1) n := by
  unfold partly
  apply List.ext_getElem
  · simp
  · intro i h1 h2
    simp only [List.getElem_set, List.getElem_map, List.getElem_range]
    by_cases h : k = i
    · subst h; simp
    · rw [if_neg h]
      by_cases h3 : i < k
      · rw [if_pos h3, if_pos (by omega)]
      · rw [if_neg h3, if_neg (by omega)]

/-- The first index below n at which q holds, or n. -/
def fst (q : Nat → Bool) : Nat → Nat
  | 0 => 0
  | k + 1 => if fst q k < k then fst q k else if q k = true then k else k + 1
theorem fst_le (q : Nat → Bool) (n : Nat) : fst q n ≤ n := by
  induction n with
  | zero => exact Nat.le_refl _
  | succ n ih => unfold fst; split <;> first | omega | (split <;> omega)
theorem fst_stay {q : Nat → Bool} {k : Nat} (h : fst q k < k) : ∀ n, k ≤ n → fst q n = fst q k := by
  intro n hn
  induction n with
  | zero => have : k = 0 := by omega
            subst this; rfl
  | succ n ih =>
    rcases Nat.lt_or_ge k (n + 1) with h1 | h1
    · have e := ih (by omega)
      show (if fst q n < n then fst q n else _) = _
      rw [if_pos (by rw [e]; omega), e]
    · have : k = n + 1 := by omega
      subst this; rfl
theorem fst_hit {q : Nat → Bool} {k n : Nat} (h : fst q k = k) (hq : q k = true) (hk : k < n) : fst q n = k := by
  have e : fst q (k + 1) = k := by
    show (if fst q k < k then _ else _) = _
    rw [if_neg (by omega), if_pos hq]
  rw [fst_stay (k := k + 1) (by omega) n (by omega), e]
theorem fst_miss {q : Nat → Bool} {k : Nat} (h : fst q k = k) (hq : q k = false) : fst q (k + 1) = k + 1 := by
  show (if fst q k < k then _ else _) = _
  rw [if_neg (by omega), if_neg (by rw [hq]; decide)]
def idx (q : Nat → Bool) (n : Nat) : Int := if fst q n < n then fst q n else -1
def any (q : Nat → Bool) (n : Nat) : Bool := decide (fst q n < n)
theorem idx_ge (q : Nat → Bool) (n : Nat) : decide (0 ≤ idx q n) = any q n := by
  unfold idx any; split <;> simp [*]
theorem any_true {q : Nat → Bool} {n : Nat} : any q n = true ↔ ∃ j, j < n ∧ q j = true := by
  unfold any
  rw [decide_eq_true_eq]
  induction n with
  | zero => exact ⟨fun h => absurd h (by unfold fst; omega), fun ⟨j, hj, _⟩ => absurd hj (by omega)⟩
  | succ n ih =>
    have hl := fst_le q n
    constructor
    · intro h
      by_cases h1 : fst q n < n
      · obtain ⟨j, hj, hq⟩ := ih.1 h1
        exact ⟨j, by omega, hq⟩
      · have e : fst q n = n := by omega
        cases hq : q n
        · rw [fst_miss e hq] at h; omega
        · exact ⟨n, by omega, hq⟩
    · rintro ⟨j, hj, hq⟩
      by_cases h1 : fst q n < n
      · rw [fst_stay h1 (n + 1) (by omega)]; omega
      · have e : fst q n = n := by omega
        have : j = n := by
          rcases Nat.lt_or_ge j n with h2 | h2
          · exact absurd (ih.2 ⟨j, h2, hq⟩) h1
          · omega
        subst this
        rw [fst_hit e hq (Nat.lt_succ_self _)]; omega
theorem any_false {q : Nat → Bool} {n : Nat} : any q n = false ↔ ∀ j, j < n → q j = false := by
  constructor
  · intro h j hj
    cases hq : q j
    · rfl
    · rw [any_true.2 ⟨j, hj, hq⟩] at h; exact h
  · intro h
    cases ha : any q n
    · rfl
    · obtain ⟨j, hj, hq⟩ := any_true.1 ha
      rw [h j hj] at hq; cases hq

def rises (Z : Nat → Int) (lo hi : Int) : Nat → Bool
  | 0 => true
  | k + 1 => rises Z lo hi k && (inB (Z k) lo hi && (k == 0 || decide (Z (k - 1) < Z k)))
theorem rises_mono {Z : Nat → Int} {lo hi : Int} {k n : Nat} (h : rises Z lo hi n = true) (hk : k ≤ n) : rises Z lo hi k = true := by
  induction n with
  | zero => have : k = 0 := by omega
            subst this; exact h
  | succ n ih =>
    rcases Nat.lt_or_ge k (n + 1) with h1 | h1
    · unfold rises at h
      rw [Bool.and_eq_true] at h
      exact ih h.1 (by omega)
    · have : k = n + 1 := by omega
      subst this; exact h
theorem rises_no {Z : Nat → Int} {lo hi : Int} {k n : Nat} (h : rises Z lo hi (k + 1) = false) (hk : k < n) : rises Z lo hi n = false := by
  cases hn : rises Z lo hi n
  · rfl
  · rw [rises_mono hn (show k + 1 ≤ n by omega)] at h; exact h
theorem rises_step {Z : Nat → Int} {lo hi : Int} {k : Nat} (h : rises Z lo hi k = true) : rises Z lo hi (k + 1) = (inB (Z k) lo hi && (k == 0 || decide (Z (k - 1) < Z k))) := by
  show (rises Z lo hi k && _) = _
  rw [h, Bool.true_and]
end Go.Proofs.Ytejhngkbkcalaaa
/-
  Rows that calls make: where they lie, what keeps them, marks. No program in sight but the model's memory.
-/
namespace Go.Proofs.Ytejhngkbkcalaaa
open Go.RowKit
set_option linter.unusedVariables false
set_option linter.unusedSimpArgs false

/-- Only blocks from lo to hi, and new ones, may have turned. -/
structure Keep (lo hi : Nat) (w w' : World) : Prop where
  os : w'.os = w.os
  tape : w'.tape = w.tape
  output : w'.output = w.output
  size : w.heap.size ≤ w'.heap.size
  block : ∀ k, k < w.heap.size → ¬ (lo ≤ k ∧ k < hi) → w'.heap[k]? = w.heap[k]?
theorem Keep.refl (lo hi : Nat) (w : World) : Keep lo hi w w := ⟨rfl, rfl, rfl, Nat.le_refl _, fun _ _ _ => rfl⟩
theorem Keep.trans {lo hi : Nat} {a b c : World} (h : Keep lo hi a b) (k : Keep lo hi b c) : Keep lo hi a c :=
  ⟨k.os.trans h.os, k.tape.trans h.tape, k.output.trans h.output, Nat.le_trans h.size k.size, fun i hi hn => (k.block i (Nat.lt_of_lt_of_le hi h.size) hn).trans (h.block i hi hn)⟩
theorem Keep.of_below {lo hi : Nat} {w w' : World} (h : Below w.heap.size w w') : Keep lo hi w w' := ⟨h.os, h.tape, h.output, h.size, fun k hk _ => h.block k hk⟩
theorem Keep.below {lo hi B : Nat} {w w' : World} (h : Keep lo hi w w') (hB : B ≤ lo) (hw : B ≤ w.heap.size) : Below B w w' :=
  ⟨h.os, h.tape, h.output, h.size, fun k hk => h.block k (by omega) (by omega)⟩
theorem Keep.set {lo hi g j : Nat} {w w' : World} {u : Value} (h : Keep lo hi w w') (h1 : lo ≤ g) (h2 : g < hi) : Keep lo hi w (w'.setCell ⟨g, j, none⟩ u) :=
  ⟨h.os, h.tape, h.output, by simpa [World.setCell] using h.size, fun k hk hne => (Below.heap_setCell w' ⟨g, j, none⟩ u k (fun e => hne (by subst e; exact ⟨h1, h2⟩))).trans (h.block k hk hne)⟩
theorem Keep.drew {lo hi : Nat} {w w' : World} (h : Keep lo hi w w') : Keep lo hi w w'.drew := ⟨h.os, h.tape, h.output, h.size, h.block⟩
theorem Keep.alloc {lo hi : Nat} {w w' : World} {o : Obj} (h : Keep lo hi w w') : Keep lo hi w (w'.alloc o) :=
  h.trans (Keep.of_below (Below.alloc (Below.refl _ _) (Nat.le_refl _) o))
theorem Keep.thenBelow {lo hi : Nat} {a b c : World} (h : Keep lo hi a b) (k : Below b.heap.size b c) : Keep lo hi a c := h.trans (Keep.of_below k)

/-- The slice's first n cells, read: they lie in ONE block from lo to hi. -/
def CellsIn (lo hi : Nat) (w : World) (a : Option Addr) (n : Nat) (V : Nat → Value) : Prop :=
  0 < n → ∃ b o, a = some ⟨b, o, none⟩ ∧ lo ≤ b ∧ b < hi ∧ b < w.heap.size ∧ ∀ j, j < n → w.cell? ⟨b, o + j, none⟩ = some (V j)
/-- The same of a row that lies at the head of its block and is not frozen. -/
def OwnIn (lo hi : Nat) (w : World) (a : Option Addr) (n : Nat) (V : Nat → Value) : Prop :=
  0 < n → ∃ g, a = some ⟨g, 0, none⟩ ∧ lo ≤ g ∧ g < hi ∧ g < w.heap.size ∧ ∀ j, j < n → w.cell? ⟨g, j, none⟩ = some (V j) ∧ w.frozen? ⟨g, j, none⟩ = false
section
variable {lo hi lo' hi' n : Nat} {w w' : World} {a : Option Addr} {V V' : Nat → Value} {Z : Nat → Int}
theorem OwnIn.cells (h : OwnIn lo hi w a n V) : CellsIn lo hi w a n V := fun hn => by
  obtain ⟨g, rfl, h1, h2, h3, hc⟩ := h hn
  exact ⟨g, 0, rfl, h1, h2, h3, fun j hj => by rw [Nat.zero_add]; exact (hc j hj).1⟩
theorem CellsIn.keep (h : CellsIn lo hi w a n V) (k : Keep lo' hi' w w') (hd : hi ≤ lo' ∨ hi' ≤ lo) : CellsIn lo hi w' a n V := fun hn => by
  obtain ⟨b, o, rfl, h1, h2, h3, hc⟩ := h hn
  have hb : w'.heap[b]? = w.heap[b]? := k.block b h3 (by omega)
  exact ⟨b, o, rfl, h1, h2, Nat.lt_of_lt_of_le h3 k.size, fun j hj => (World.cell?_of_block (a := ⟨b, o + j, none⟩) hb).trans (hc j hj)⟩
theorem CellsIn.below (h : CellsIn lo hi w a n V) (k : Below w.heap.size w w') : CellsIn lo hi w' a n V := fun hn => by
  obtain ⟨b, o, rfl, h1, h2, h3, hc⟩ := h hn
  exact ⟨b, o, rfl, h1, h2, Nat.lt_of_lt_of_le h3 k.size, fun j hj => (k.cell (p := ⟨b, o + j, none⟩) h3).trans (hc j hj)⟩
theorem CellsIn.cong (h : CellsIn lo hi w a n V) (e : ∀ j, j < n → V j = V' j) : CellsIn lo hi w a n V' := fun hn => by
  obtain ⟨b, o, rfl, h1, h2, h3, hc⟩ := h hn
  exact ⟨b, o, rfl, h1, h2, h3, fun j hj => by rw [← e j hj]; exact hc j hj⟩
theorem CellsIn.ints (h : CellsIn lo hi w a n (fun j => .int .i64 (Z j))) : IntsAt w a n Z := fun hn => by
  obtain ⟨b, o, rfl, h1, h2, h3, hc⟩ := h hn
  exact ⟨b, o, rfl, h3, hc⟩
theorem CellsIn.mono (h : CellsIn lo hi w a n V) (h1 : lo' ≤ lo) (h2 : hi ≤ hi') : CellsIn lo' hi' w a n V := fun hn => by
  obtain ⟨b, o, rfl, h3, h4, h5, hc⟩ := h hn
  exact ⟨b, o, rfl, Nat.le_trans h1 h3, Nat.lt_of_lt_of_le h4 h2, h5, hc⟩
theorem OwnIn.mono (h : OwnIn lo hi w a n V) (h1 : lo' ≤ lo) (h2 : hi ≤ hi') : OwnIn lo' hi' w a n V := fun hn => by
  obtain ⟨b, rfl, h3, h4, h5, hc⟩ := h hn
  exact ⟨b, rfl, Nat.le_trans h1 h3, Nat.lt_of_lt_of_le h4 h2, h5, hc⟩
theorem OwnIn.keep (h : OwnIn lo hi w a n V) (k : Keep lo' hi' w w') (hd : hi ≤ lo' ∨ hi' ≤ lo) : OwnIn lo hi w' a n V := fun hn => by
  obtain ⟨g, rfl, h1, h2, h3, hc⟩ := h hn
  have hb : w'.heap[g]? = w.heap[g]? := k.block g h3 (by omega)
  exact ⟨g, rfl, h1, h2, Nat.lt_of_lt_of_le h3 k.size, fun j hj => ⟨(World.cell?_of_block (a := ⟨g, j, none⟩) hb).trans (hc j hj).1, (World.frozen?_of_block (a := ⟨g, j, none⟩) hb).trans (hc j hj).2⟩⟩
theorem OwnIn.below (h : OwnIn lo hi w a n V) (k : Below w.heap.size w w') : OwnIn lo hi w' a n V := fun hn => by
  obtain ⟨g, rfl, h1, h2, h3, hc⟩ := h hn
  exact ⟨g, rfl, h1, h2, Nat.lt_of_lt_of_le h3 k.size, fun j hj => ⟨(k.cell (p := ⟨g, j, none⟩) h3).trans (hc j hj).1, (k.frozen (p := ⟨g, j, none⟩) h3).trans (hc j hj).2⟩⟩
theorem OwnIn.cong (h : OwnIn lo hi w a n V) (e : ∀ j, j < n → V j = V' j) : OwnIn lo hi w a n V' := fun hn => by
  obtain ⟨g, rfl, h1, h2, h3, hc⟩ := h hn
  exact ⟨g, rfl, h1, h2, h3, fun j hj => by rw [← e j hj]; exact hc j hj⟩
theorem OwnIn.ints (h : OwnIn lo hi w a n (fun j => .int .i64 (Z j))) : IntsAt w a n Z := h.cells.ints
theorem IntsAt.cells (h : IntsAt w a n Z) : CellsIn 0 w.heap.size w a n (fun j => .int .i64 (Z j)) := fun hn => by
  obtain ⟨b, o, rfl, h1, hc⟩ := h hn
  exact ⟨b, o, rfl, Nat.zero_le _, h1, h1, hc⟩
theorem RowAt.ownIn {g : Nat} {t : TypeId} (h : RowAt w g n t Z) (h1 : lo ≤ g) (h2 : g < hi) : OwnIn lo hi w (some ⟨g, 0, none⟩) n (fun j => .int .i64 (Z j)) :=
  fun _ => ⟨g, rfl, h1, h2, h.lt, fun j hj => ⟨h.cell hj, by unfold World.frozen?; rw [show w.heap[(⟨g, j, none⟩ : Addr).block]? = _ from h]; simp⟩⟩
theorem OwnIn.set {g m : Nat} (h : OwnIn lo hi w (some ⟨g, 0, none⟩) n V) (hm : m < n) (u : Value) :
    OwnIn lo hi (w.setCell ⟨g, m, none⟩ u) (some ⟨g, 0, none⟩) n (fun j => if j = m then u else V j) := fun hn => by
  obtain ⟨g', e, h1, h2, h3, hc⟩ := h hn
  obtain rfl : g = g' := by simpa using e
  refine ⟨g, rfl, h1, h2, lt_set h3, fun j hj => ⟨?_, ?_⟩⟩
  · dsimp only
    by_cases hjm : j = m
    · subst hjm; rw [if_pos rfl]; exact cell_same (hc j hj).1
    · rw [if_neg hjm]; exact cell_off (hc j hj).1 hjm
  · simpa using (hc j hj).2
theorem OwnIn.alloc {o : Obj} (h : OwnIn lo hi w a n V) : OwnIn lo hi (w.alloc o) a n V := h.below (Below.alloc (Below.refl _ _) (Nat.le_refl _) o)
theorem OwnIn.drew (h : OwnIn lo hi w a n V) : OwnIn lo hi w.drew a n V := h.below (Below.drew (Below.refl _ _))
theorem own_new (w : World) (cs : Array Value) (e : TypeId) (h1 : lo ≤ w.heap.size) (h2 : w.heap.size < hi) : OwnIn lo hi (w.alloc (.cells cs e)) (some ⟨w.heap.size, 0, none⟩) cs.size (fun q => cs[q]?.getD (.int .i64 0)) :=
  fun _ => ⟨w.heap.size, rfl, h1, h2, by simp, fun j hj => ⟨by rw [cell_of_row _ _ j cs e (0, 0) (heap_alloc_new w _)]; simp [hj], World.frozen?_alloc_at _ _ _ _ rfl⟩⟩
theorem OwnIn.at {g j : Nat} (h : OwnIn lo hi w (some ⟨g, 0, none⟩) n V) (hj : j < n) : w.cell? ⟨g, j, none⟩ = some (V j) := by
  obtain ⟨g', e, _, _, _, hc⟩ := h (by omega)
  have e2 : g = g' := by injection e with e1; injection e1
  subst e2
  exact (hc j hj).1
theorem OwnIn.block {g : Nat} (h : OwnIn lo hi w (some ⟨g, 0, none⟩) n V) (hn : 0 < n) : g < w.heap.size := by
  obtain ⟨g', e, _, _, h3, _⟩ := h hn
  have e2 : g = g' := by injection e with e1; injection e1
  subst e2
  exact h3
theorem OwnIn.none0 : OwnIn lo hi w a 0 V := fun h => absurd h (by omega)
end
/-- What has been gathered by append reads as numbers. -/
theorem own_out {w : World} {B : Nat} {e : TypeId} {v : Value} {L : List Int} (h : w.ownsRow B e 1 v L.length (L.map (Value.int .i64))) :
    ∃ a c, v = .slice a L.length c ∧ OwnIn B w.heap.size w a L.length (fun j => .int .i64 (L.getD j 0)) := by
  have h0 := h
  rcases h.2 with ⟨rfl, hn⟩ | ⟨g, cap, cur, rfl, hB, hg, _⟩
  · exact ⟨none, 0, by rw [hn], fun hp => by omega⟩
  · have hl : g < w.heap.size := by
      rcases Nat.lt_or_ge g w.heap.size with h1 | h1
      · exact h1
      · rw [Array.getElem?_eq_none h1] at hg; cases hg
    refine ⟨_, cap, rfl, fun _ => ⟨g, rfl, hB, hl, hl, fun j hj => ⟨?_, h0.frozenAt j⟩⟩⟩
    rw [h0.cellAt j (by omega)]
    simp [hj]
/-- A call gives back a list of numbers in a row of its own, and a code. -/
def RetInts (L : List Int) (code : Int) (w : World) (e : Ending) (w' : World) : Prop :=
  ∃ a c, e = .returned (.tuple #[.slice a L.length c, .int .i64 code]) ∧ OwnIn w.heap.size w'.heap.size w' a L.length (fun j => .int .i64 (L.getD j 0)) ∧ Below w.heap.size w w'
/-- The same without a code. -/
def RetRow (L : List Int) (w : World) (e : Ending) (w' : World) : Prop :=
  ∃ a c, e = .returned (.slice a L.length c) ∧ OwnIn w.heap.size w'.heap.size w' a L.length (fun j => .int .i64 (L.getD j 0)) ∧ Below w.heap.size w w'
/-- A call gives back a slice of n elements in a row of its own, of m cells. -/
def RetSlice (m n : Nat) (V : Nat → Value) (w : World) (e : Ending) (w' : World) : Prop :=
  ∃ a c, e = .returned (.slice a n c) ∧ OwnIn w.heap.size w'.heap.size w' a m V ∧ Below w.heap.size w w'
/-- The marks that a law writes. -/
def marksFrom (k : Int) (q : Nat) : Value := .int .i64 (k + q)
end Go.Proofs.Ytejhngkbkcalaaa
/-
  Exact contracts of the functions that copy a struct: which blocks they make.
-/
namespace Go.Proofs.Ytejhngkbkcalaaa
open Go.RowKit


end Go.Proofs.Ytejhngkbkcalaaa
/-
  Contracts of functions on brakes, states and doors.
-/
namespace Go.Proofs.Ytejhngkbkcalaaa
open Go.RowKit


end Go.Proofs.Ytejhngkbkcalaaa
/-
  Rows of structs, cell by cell. No program in sight but the model's memory.
-/
namespace Go.Proofs.Ytejhngkbkcalaaa
open Go.RowKit
set_option linter.unusedVariables false
set_option linter.unusedSimpArgs false

/-- Passings: switch and second. -/
def psV (S T : Nat → Int) (q : Nat) : Value := .int .i64 (if q % 2 = 0 then S (q / 2) else T (q / 2))
theorem psV_0 (S T : Nat → Int) (k : Nat) : psV S T (k * 2) = .int .i64 (S k) := by unfold psV; rw [if_pos (by omega)]; congr 2; omega
theorem psV_1 (S T : Nat → Int) (k : Nat) : psV S T (k * 2 + 1) = .int .i64 (T k) := by unfold psV; rw [if_neg (by omega)]; congr 2; omega
/-- The slice value reads as the passings (S k, T k). -/
def PassAt (w : World) (a : Option Addr) (n : Nat) (S T : Nat → Int) : Prop :=
  0 < n → ∃ b o, a = some ⟨b, o, none⟩ ∧ b < w.heap.size ∧ ∀ k, k < n → w.cell? ⟨b, o + k * 2, none⟩ = some (.int .i64 (S k)) ∧ w.cell? ⟨b, o + k * 2 + 1, none⟩ = some (.int .i64 (T k))
theorem CellsIn.pass {lo hi n : Nat} {w : World} {a : Option Addr} {S T : Nat → Int} (h : CellsIn lo hi w a (2 * n) (psV S T)) : PassAt w a n S T := fun hn => by
  obtain ⟨b, o, rfl, _, _, hb, hc⟩ := h (by omega)
  refine ⟨b, o, rfl, hb, fun k hk => ⟨?_, ?_⟩⟩
  · rw [hc (k * 2) (by omega), psV_0]
  · rw [Nat.add_assoc, hc (k * 2 + 1) (by omega), psV_1]
theorem PassAt.below {w w' : World} {a : Option Addr} {n : Nat} {S T : Nat → Int} (h : PassAt w a n S T) (hb : Below w.heap.size w w') : PassAt w' a n S T := fun hn => by
  obtain ⟨b, o, rfl, hlt, hc⟩ := h hn
  exact ⟨b, o, rfl, Nat.lt_of_lt_of_le hlt hb.size, fun k hk => ⟨(hb.cell (p := ⟨b, o + k * 2, none⟩) hlt).trans (hc k hk).1, (hb.cell (p := ⟨b, o + k * 2 + 1, none⟩) hlt).trans (hc k hk).2⟩⟩
/-- Doors: place, ticks, tries. -/
def drV (P K R : Nat → Int) (q : Nat) : Value := .int .i64 (if q % 3 = 0 then P (q / 3) else if q % 3 = 1 then K (q / 3) else R (q / 3))
theorem drV_0 (P K R : Nat → Int) (k : Nat) : drV P K R (k * 3) = .int .i64 (P k) := by unfold drV; rw [if_pos (by omega)]; congr 2; omega
theorem drV_1 (P K R : Nat → Int) (k : Nat) : drV P K R (k * 3 + 1) = .int .i64 (K k) := by unfold drV; rw [if_neg (by omega), if_pos (by omega)]; congr 2; omega
theorem drV_2 (P K R : Nat → Int) (k : Nat) : drV P K R (k * 3 + 2) = .int .i64 (R k) := by unfold drV; rw [if_neg (by omega), if_neg (by omega)]; congr 2; omega
def DoorsAt (w : World) (a : Option Addr) (n : Nat) (P K R : Nat → Int) : Prop :=
  0 < n → ∃ b o, a = some ⟨b, o, none⟩ ∧ b < w.heap.size ∧ ∀ k, k < n → w.cell? ⟨b, o + k * 3, none⟩ = some (.int .i64 (P k)) ∧ w.cell? ⟨b, o + k * 3 + 1, none⟩ = some (.int .i64 (K k)) ∧ w.cell? ⟨b, o + k * 3 + 2, none⟩ = some (.int .i64 (R k))
theorem CellsIn.doors {lo hi n : Nat} {w : World} {a : Option Addr} {P K R : Nat → Int} (h : CellsIn lo hi w a (3 * n) (drV P K R)) : DoorsAt w a n P K R := fun hn => by
  obtain ⟨b, o, rfl, _, _, hb, hc⟩ := h (by omega)
  refine ⟨b, o, rfl, hb, fun k hk => ⟨?_, ?_, ?_⟩⟩
  · rw [hc (k * 3) (by omega), drV_0]
  · rw [Nat.add_assoc, hc (k * 3 + 1) (by omega), drV_1]
  · rw [Nat.add_assoc, hc (k * 3 + 2) (by omega), drV_2]
theorem DoorsAt.below {w w' : World} {a : Option Addr} {n : Nat} {P K R : Nat → Int} (h : DoorsAt w a n P K R) (hb : Below w.heap.size w w') : DoorsAt w' a n P K R := fun hn => by
  obtain ⟨b, o, rfl, hlt, hc⟩ := h hn
  exact ⟨b, o, rfl, Nat.lt_of_lt_of_le hlt hb.size, fun k hk => ⟨(hb.cell (p := ⟨b, o + k * 3, none⟩) hlt).trans (hc k hk).1, (hb.cell (p := ⟨b, o + k * 3 + 1, none⟩) hlt).trans (hc k hk).2.1, (hb.cell (p := ⟨b, o + k * 3 + 2, none⟩) hlt).trans (hc k hk).2.2⟩⟩
/-- Workers: id, from, until. -/
def wkV (I : Nat → ByteArray) (F U : Nat → Int) (q : Nat) : Value := if q % 3 = 0 then .string (I (q / 3)) else if q % 3 = 1 then .int .i64 (F (q / 3)) else .int .i64 (U (q / 3))
theorem wkV_0 (I : Nat → ByteArray) (F U : Nat → Int) (k : Nat) : wkV I F U (k * 3) = .string (I k) := by unfold wkV; rw [if_pos (by omega)]; congr 2; omega
theorem wkV_1 (I : Nat → ByteArray) (F U : Nat → Int) (k : Nat) : wkV I F U (k * 3 + 1) = .int .i64 (F k) := by unfold wkV; rw [if_neg (by omega), if_pos (by omega)]; congr 2; omega
theorem wkV_2 (I : Nat → ByteArray) (F U : Nat → Int) (k : Nat) : wkV I F U (k * 3 + 2) = .int .i64 (U k) := by unfold wkV; rw [if_neg (by omega), if_neg (by omega)]; congr 2; omega
def WorkAt (w : World) (a : Option Addr) (n : Nat) (I : Nat → ByteArray) (F U : Nat → Int) : Prop :=
  0 < n → ∃ b o, a = some ⟨b, o, none⟩ ∧ b < w.heap.size ∧ ∀ k, k < n → w.cell? ⟨b, o + k * 3, none⟩ = some (.string (I k)) ∧ w.cell? ⟨b, o + k * 3 + 1, none⟩ = some (.int .i64 (F k)) ∧ w.cell? ⟨b, o + k * 3 + 2, none⟩ = some (.int .i64 (U k))
theorem CellsIn.workers {lo hi n : Nat} {w : World} {a : Option Addr} {I : Nat → ByteArray} {F U : Nat → Int} (h : CellsIn lo hi w a (3 * n) (wkV I F U)) : WorkAt w a n I F U := fun hn => by
  obtain ⟨b, o, rfl, _, _, hb, hc⟩ := h (by omega)
  refine ⟨b, o, rfl, hb, fun k hk => ⟨?_, ?_, ?_⟩⟩
  · rw [hc (k * 3) (by omega), wkV_0]
  · rw [Nat.add_assoc, hc (k * 3 + 1) (by omega), wkV_1]
  · rw [Nat.add_assoc, hc (k * 3 + 2) (by omega), wkV_2]
theorem WorkAt.below {w w' : World} {a : Option Addr} {n : Nat} {I : Nat → ByteArray} {F U : Nat → Int} (h : WorkAt w a n I F U) (hb : Below w.heap.size w w') : WorkAt w' a n I F U := fun hn => by
  obtain ⟨b, o, rfl, hlt, hc⟩ := h hn
  exact ⟨b, o, rfl, Nat.lt_of_lt_of_le hlt hb.size, fun k hk => ⟨(hb.cell (p := ⟨b, o + k * 3, none⟩) hlt).trans (hc k hk).1, (hb.cell (p := ⟨b, o + k * 3 + 1, none⟩) hlt).trans (hc k hk).2.1, (hb.cell (p := ⟨b, o + k * 3 + 2, none⟩) hlt).trans (hc k hk).2.2⟩⟩
end Go.Proofs.Ytejhngkbkcalaaa
/-
  Plain definitions: passings. No program in sight.
-/
namespace Go.Proofs.Ytejhngkbkcalaaa
open Go.RowKit
set_option linter.unusedVariables false
set_option linter.unusedSimpArgs false

/-- The first k passings are valid over n switches. -/
def goodP (n : Nat) (S T : Nat → Int) : Nat → Bool
  | 0 => true
  | k + 1 => goodP n S T k && (inB (S k) 0 ((n : Int) - 1) && inB (T k) 0 1000000 && (k == 0 || (decide (T (k - 1) < T k) && !(S k == S (k - 1)))))
theorem goodP_mono {n : Nat} {S T : Nat → Int} {k m : Nat} (h : goodP n S T m = true) (hk : k ≤ m) : goodP n S T k = true := by
  induction m with
  | zero => have : k = 0 := by omega
            subst this; exact h
  | succ m ih =>
    rcases Nat.lt_or_ge k (m + 1) with h1 | h1
    · unfold goodP at h
      rw [Bool.and_eq_true] at h
      exact ih h.1 (by omega)
    · have : k = m + 1 := by omega
      subst this; exact h
theorem goodP_no {n : Nat} {S T : Nat → Int} {k m : Nat} (h : goodP n S T (k + 1) = false) (hk : k < m) : goodP n S T m = false := by
  cases hn : goodP n S T m
  · rfl
  · rw [goodP_mono hn (show k + 1 ≤ m by omega)] at h; exact h
theorem goodP_step {n : Nat} {S T : Nat → Int} {k : Nat} (h : goodP n S T k = true) : goodP n S T (k + 1) = (inB (S k) 0 ((n : Int) - 1) && inB (T k) 0 1000000 && (k == 0 || (decide (T (k - 1) < T k) && !(S k == S (k - 1))))) := by
  show (goodP n S T k && _) = _
  rw [h, Bool.true_and]
theorem goodP_at {n : Nat} {S T : Nat → Int} {k m : Nat} (h : goodP n S T m = true) (hk : k < m) : 0 ≤ S k ∧ S k < n ∧ 0 ≤ T k ∧ T k ≤ 1000000 := by
  have h1 := goodP_mono h (show k + 1 ≤ m by omega)
  rw [goodP_step (goodP_mono h (show k ≤ m by omega))] at h1
  simp only [Bool.and_eq_true] at h1
  have h2 := inB_true.1 h1.1.1
  have h3 := inB_true.1 h1.1.2
  omega
theorem goodP_next {n : Nat} {S T : Nat → Int} {k m : Nat} (h : goodP n S T m = true) (hk : k + 1 < m) : T k < T (k + 1) ∧ S (k + 1) ≠ S k := by
  have h1 := goodP_mono h (show k + 1 + 1 ≤ m by omega)
  rw [goodP_step (goodP_mono h (show k + 1 ≤ m by omega))] at h1
  simp only [Bool.and_eq_true, Bool.or_eq_true, beq_iff_eq, decide_eq_true_eq, Bool.not_eq_true', beq_eq_false_iff_ne] at h1
  have h2 := h1.2
  simp at h2
  exact h2
theorem goodP_rise {n : Nat} {S T : Nat → Int} {m : Nat} (h : goodP n S T m = true) : ∀ j k, j < k → k < m → T j < T k := by
  intro j k hjk hk
  induction k with
  | zero => omega
  | succ k ih =>
    have h1 := (goodP_next h hk).1
    rcases Nat.lt_or_ge j k with h2 | h2
    · have := ih h2 (by omega); omega
    · have : j = k := by omega
      subst this; exact h1
theorem beq_swap (x y : Int) : (x == y) = (y == x) := by rw [Bool.eq_iff_iff]; simp; exact eq_comm
def placesOk (Z : Nat → Int) (n : Nat) : Bool := rises Z 0 4000000 n && decide (n ≤ 16)
def passOk (Z : Nat → Int) (n : Nat) (S T : Nat → Int) (m : Nat) : Bool := placesOk Z n && (goodP n S T m && decide (m ≤ 32))
theorem passOk_parts {Z : Nat → Int} {n : Nat} {S T : Nat → Int} {m : Nat} (h : passOk Z n S T m = true) : rises Z 0 4000000 n = true ∧ n ≤ 16 ∧ goodP n S T m = true ∧ m ≤ 32 := by
  unfold passOk placesOk at h
  simp only [Bool.and_eq_true, decide_eq_true_eq] at h
  exact ⟨h.1.1, h.1.2, h.2.1, h.2.2⟩
theorem passOk_no {Z : Nat → Int} {n : Nat} {S T : Nat → Int} {k m : Nat} (h : goodP n S T (k + 1) = false) (hk : k < m) : passOk Z n S T m = false := by
  unfold passOk; rw [goodP_no h hk]; simp
theorem passOk_all {Z : Nat → Int} {n : Nat} {S T : Nat → Int} {m : Nat} (h : goodP n S T m = true) : passOk Z n S T m = (placesOk Z n && decide (m ≤ 32)) := by
  unfold passOk; rw [h, Bool.true_and]
end Go.Proofs.Ytejhngkbkcalaaa
/-
  Plain definitions: rounded quotients, forces of brakes, stopping ways. No program in sight.
-/
namespace Go.Proofs.Ytejhngkbkcalaaa
open Go.RowKit
set_option linter.unusedVariables false
set_option linter.unusedSimpArgs false

def nearV (a b : Int) : Int := if 0 ≤ a then (2 * a + b) / (2 * b) else -((b - 2 * a) / (2 * b))

theorem div_is {a b q r : Int} (hb : 0 < b) (h : b * q + r = a) (h0 : 0 ≤ r) (h1 : r < b) : a / b = q :=
  ((Int.ediv_emod_unique hb).2 ⟨by rw [← h]; omega, h0, h1⟩).1

theorem near_pos {a b : Int} (ha : 0 ≤ a) (hb : 1 ≤ b) : (if b - a % b ≤ a % b then a / b + 1 else a / b) = nearV a b := by
  unfold nearV
  rw [if_pos ha]
  have h := Int.mul_ediv_add_emod a b
  have h0 := Int.emod_nonneg a (show b ≠ 0 by omega)
  have h1 := Int.emod_lt_of_pos a (show 0 < b by omega)
  generalize a / b = q at *
  generalize a % b = r at *
  split
  · refine (div_is (q := q + 1) (r := 2 * r - b) (by omega) ?_ (by omega) (by omega)).symm
    have e : 2 * b * (q + 1) = 2 * (b * q) + 2 * b := by rw [Int.mul_add, Int.mul_assoc, Int.mul_one]
    rw [e]; omega
  · refine (div_is (q := q) (r := 2 * r + b) (by omega) ?_ (by omega) (by omega)).symm
    have e : 2 * b * q = 2 * (b * q) := by rw [Int.mul_assoc]
    rw [e]; omega

theorem nearV_neg {c b : Int} (hc : 0 < c) : nearV (-c) b = -nearV c b := by
  unfold nearV
  rw [if_neg (by omega), if_pos (by omega), show b - 2 * -c = 2 * c + b by omega]
theorem near_neg {a b : Int} (ha : a < 0) (hb : 1 ≤ b) : (if b - (-(a.tmod b)) ≤ -(a.tmod b) then a.tdiv b - 1 else a.tdiv b) = nearV a b := by
  obtain ⟨c, rfl⟩ : ∃ c, a = -c := ⟨-a, by omega⟩
  have e1 : (-c).tdiv b = -(c / b) := by rw [Int.neg_tdiv, Int.tdiv_eq_ediv_of_nonneg (by omega)]
  have e2 : (-c).tmod b = -(c % b) := by rw [Int.neg_tmod, Int.tmod_eq_emod_of_nonneg (by omega)]
  rw [e1, e2, Int.neg_neg, nearV_neg (by omega), ← near_pos (by omega) hb]
  split <;> omega
theorem near_bound {a b : Int} (ha : 0 ≤ a) (hb : 1 ≤ b) : 0 ≤ nearV a b ∧ nearV a b ≤ a + 1 := by
  rw [← near_pos ha hb]
  have h0 : 0 ≤ a / b := Int.ediv_nonneg ha (by omega)
  have h1 : a / b ≤ a := Int.ediv_le_self b ha
  split <;> omega
theorem near_bound' {a b : Int} (hb : 1 ≤ b) : -(a.natAbs : Int) - 1 ≤ nearV a b ∧ nearV a b ≤ a.natAbs + 1 := by
  by_cases ha : 0 ≤ a
  · have := near_bound ha hb; omega
  · have := near_bound (a := -a) (b := b) (by omega) hb
    unfold nearV at *
    rw [if_pos (by omega)] at this
    rw [if_neg ha, show b - 2 * a = 2 * -a + b by omega]
    omega

def upV (a b : Int) : Int := (a + b - 1) / b
theorem upV_bound {a b : Int} (ha : 0 ≤ a) (hb : 1 ≤ b) : 0 ≤ upV a b ∧ upV a b ≤ a := by
  unfold upV
  refine ⟨Int.ediv_nonneg (by omega) (by omega), ?_⟩
  have : (a + b - 1) / b < a + 1 := by
    refine Int.ediv_lt_of_lt_mul (by omega) ?_
    have e : a ≤ a * b := by
      have := Int.mul_le_mul_of_nonneg_left hb ha
      omega
    rw [Int.add_mul]; omega
  omega
theorem upV_mono {a a' b : Int} (h : a ≤ a') (hb : 1 ≤ b) : upV a b ≤ upV a' b := Int.ediv_le_ediv (by omega) (by omega)
theorem upV_anti {a b b' : Int} (ha : 0 ≤ a) (hb : 1 ≤ b) (h : b ≤ b') : upV a b' ≤ upV a b := by
  unfold upV
  have h1 : (a + b - 1) / b < (a + b - 1) / b + 1 := by omega
  have h2 := Int.lt_mul_of_ediv_lt (show 0 < b by omega) h1
  have : (a + b' - 1) / b' < (a + b - 1) / b + 1 := by
    refine Int.ediv_lt_of_lt_mul (by omega) ?_
    have hn : 0 ≤ (a + b - 1) / b := Int.ediv_nonneg (by omega) (by omega)
    have := Int.mul_le_mul_of_nonneg_left h hn
    rw [Int.add_mul, Int.one_mul] at *
    omega
  omega

/-- By how much a car becomes slower in a second. -/
def forceV (f g : Int) (down : Bool) : Int := if down = true then f - nearV (g * 981) 100 else f + nearV (g * 981) 100
/-- The way in which a car stops, for a positive force F. -/
def wayV (d F s : Int) : Int := upV (s * d) 10 + upV (s * s) (2 * F)
def askV (d f s g : Int) : Int := if validBrake d f = true then (if inB s 0 15000 = true ∧ inB g 0 900 = true then 0 else 2) else 1
def stopCode (d f s g : Int) (down : Bool) : Int := if askV d f s g = 0 then (if forceV f g down ≤ 0 then 3 else 0) else askV d f s g
def stopWayV (d f s g : Int) (down : Bool) : Int := if stopCode d f s g down = 0 then wayV d (forceV f g down) s else 0
def stopTenthsV (d f s g : Int) (down : Bool) : Int := if stopCode d f s g down = 0 then d + upV (10 * s) (forceV f g down) else 0
theorem validBrake_bd {d f : Int} (h : validBrake d f = true) : 0 ≤ d ∧ d ≤ 100 ∧ 1 ≤ f ∧ f ≤ 10000 := by
  unfold validBrake at h; rw [Bool.and_eq_true, inB_true, inB_true] at h; omega
theorem force_bd {f g : Int} {down : Bool} (h1 : 1 ≤ f) (h2 : f ≤ 10000) (h3 : 0 ≤ g) (h4 : g ≤ 900) : -9000 ≤ forceV f g down ∧ forceV f g down ≤ 19000 := by
  have e : nearV (g * 981) 100 = (2 * (g * 981) + 100) / 200 := by unfold nearV; rw [if_pos (by omega)]; rfl
  unfold forceV
  split <;> omega
theorem force_up {f g : Int} (h1 : 1 ≤ f) (h3 : 0 ≤ g) : f ≤ forceV f g false := by
  have e : nearV (g * 981) 100 = (2 * (g * 981) + 100) / 200 := by unfold nearV; rw [if_pos (by omega)]; rfl
  unfold forceV
  rw [if_neg (by decide)]
  omega
theorem mul_bd {x y a b : Int} (h0 : 0 ≤ x) (h1 : x ≤ a) (h2 : 0 ≤ y) (h3 : y ≤ b) : 0 ≤ x * y ∧ x * y ≤ a * b :=
  ⟨Int.mul_nonneg h0 h2, Int.mul_le_mul h1 h3 h2 (by omega)⟩
theorem way_bd {d F s : Int} (h0 : 0 ≤ s) (h1 : s ≤ 15000) (h2 : 0 ≤ d) (h3 : d ≤ 100) (hF : 1 ≤ F) : 0 ≤ wayV d F s ∧ wayV d F s ≤ 230000000 := by
  have a := mul_bd h0 h1 h2 h3
  have b := mul_bd h0 h1 h0 h1
  have c := upV_bound (b := 10) a.1 (by omega)
  have e := upV_bound (b := 2 * F) b.1 (by omega)
  unfold wayV
  omega
theorem stop_1 {d f s g : Int} {down : Bool} (h : validBrake d f = false) : stopCode d f s g down = 1 ∧ stopWayV d f s g down = 0 ∧ stopTenthsV d f s g down = 0 := by
  have a : askV d f s g = 1 := by simp [askV, h]
  have c : stopCode d f s g down = 1 := by simp [stopCode, a]
  exact ⟨c, by simp [stopWayV, c], by simp [stopTenthsV, c]⟩
theorem stop_2 {d f s g : Int} {down : Bool} (h : validBrake d f = true) (h' : (inB s 0 15000 && inB g 0 900) = false) : stopCode d f s g down = 2 ∧ stopWayV d f s g down = 0 ∧ stopTenthsV d f s g down = 0 := by
  have a : askV d f s g = 2 := by simp [askV, h]; simp at h'; exact h'
  have c : stopCode d f s g down = 2 := by simp [stopCode, a]
  exact ⟨c, by simp [stopWayV, c], by simp [stopTenthsV, c]⟩
theorem stop_3 {d f s g : Int} {down : Bool} (h : validBrake d f = true) (h1 : inB s 0 15000 = true) (h2 : inB g 0 900 = true) (h3 : forceV f g down ≤ 0) : stopCode d f s g down = 3 ∧ stopWayV d f s g down = 0 ∧ stopTenthsV d f s g down = 0 := by
  have a : askV d f s g = 0 := by simp [askV, h, h1, h2]
  have c : stopCode d f s g down = 3 := by simp [stopCode, a, h3]
  exact ⟨c, by simp [stopWayV, c], by simp [stopTenthsV, c]⟩
theorem stop_0 {d f s g : Int} {down : Bool} (h : validBrake d f = true) (h1 : inB s 0 15000 = true) (h2 : inB g 0 900 = true) (h3 : ¬ forceV f g down ≤ 0) : stopCode d f s g down = 0 ∧ stopWayV d f s g down = wayV d (forceV f g down) s ∧ stopTenthsV d f s g down = d + upV (10 * s) (forceV f g down) := by
  have a : askV d f s g = 0 := by simp [askV, h, h1, h2]
  have c : stopCode d f s g down = 0 := by simp [stopCode, a, h3]
  exact ⟨c, by simp [stopWayV, c], by simp [stopTenthsV, c]⟩
end Go.Proofs.Ytejhngkbkcalaaa
/-
  Plain definitions: readings, sums. No program in sight.
-/
namespace Go.Proofs.Ytejhngkbkcalaaa
open Go.RowKit
set_option linter.unusedVariables false
set_option linter.unusedSimpArgs false

/-- Some number is no reading. -/
def badRead (Z : Nat → Int) (n : Nat) : Bool := any (fun j => !inB (Z j) (-1000000000) 1000000000) n
def readV (Z : Nat → Int) (n : Nat) : Bool := !badRead Z n && decide (n ≤ 32)
theorem readV_bd {Z : Nat → Int} {n j : Nat} (h : readV Z n = true) (hj : j < n) : -1000000000 ≤ Z j ∧ Z j ≤ 1000000000 := by
  unfold readV badRead at h
  rw [Bool.and_eq_true, Bool.not_eq_true', any_false] at h
  have := h.1 j hj
  simp only [Bool.not_eq_false'] at this
  exact inB_true.1 this
theorem readV_le {Z : Nat → Int} {n : Nat} (h : readV Z n = true) : n ≤ 32 := by
  unfold readV at h; rw [Bool.and_eq_true, decide_eq_true_eq] at h; exact h.2
theorem badRead_here {Z : Nat → Int} {n k : Nat} (hk : k < n) (h : inB (Z k) (-1000000000) 1000000000 = false) : readV Z n = false := by
  have : badRead Z n = true := any_true.2 ⟨k, hk, by simp [h]⟩
  unfold readV; rw [this]; rfl
theorem badRead_none {Z : Nat → Int} {n : Nat} (h : ∀ j, j < n → inB (Z j) (-1000000000) 1000000000 = true) : readV Z n = decide (n ≤ 32) := by
  have : badRead Z n = false := any_false.2 (fun j hj => by simp [h j hj])
  unfold readV; rw [this]; rfl
/-- The sum of the first k differences. -/
def sumD (Z Y : Nat → Int) : Nat → Int
  | 0 => 0
  | k + 1 => sumD Z Y k + (Y k - Z k)
theorem sumD_bd {Z Y : Nat → Int} {n : Nat} (hz : ∀ j, j < n → -1000000000 ≤ Z j ∧ Z j ≤ 1000000000) (hy : ∀ j, j < n → -1000000000 ≤ Y j ∧ Y j ≤ 1000000000) : ∀ k, k ≤ n → -2000000000 * (k : Int) ≤ sumD Z Y k ∧ sumD Z Y k ≤ 2000000000 * (k : Int) := by
  intro k hk
  induction k with
  | zero => exact ⟨by show (-2000000000 * 0 : Int) ≤ 0; omega, by show (0 : Int) ≤ 2000000000 * 0; omega⟩
  | succ k ih =>
    have h1 := hz k (by omega)
    have h2 := hy k (by omega)
    have h3 := ih (by omega)
    show _ ≤ sumD Z Y k + (Y k - Z k) ∧ sumD Z Y k + (Y k - Z k) ≤ _
    omega
def offCode (Z Y : Nat → Int) (n m : Nat) : Int := if (decide (1 ≤ n) && readV Z n && (decide (1 ≤ m) && readV Y m)) = true then (if n = m then 0 else 7) else 2
def offV (Z Y : Nat → Int) (n m : Nat) : Int := if offCode Z Y n m = 0 then nearV (sumD Z Y n) n else 0
theorem off_2 {Z Y : Nat → Int} {n m : Nat} (h : (decide (1 ≤ n) && readV Z n && (decide (1 ≤ m) && readV Y m)) = false) : offCode Z Y n m = 2 ∧ offV Z Y n m = 0 := by
  have e : offCode Z Y n m = 2 := by unfold offCode; rw [h, if_neg (by decide)]
  exact ⟨e, by unfold offV; rw [e, if_neg (by decide)]⟩
theorem off_7 {Z Y : Nat → Int} {n m : Nat} (h : (decide (1 ≤ n) && readV Z n && (decide (1 ≤ m) && readV Y m)) = true) (h' : n ≠ m) : offCode Z Y n m = 7 ∧ offV Z Y n m = 0 := by
  have e : offCode Z Y n m = 7 := by unfold offCode; rw [h, if_pos rfl, if_neg h']
  exact ⟨e, by unfold offV; rw [e, if_neg (by decide)]⟩
theorem off_0 {Z Y : Nat → Int} {n m : Nat} (h : (decide (1 ≤ n) && readV Z n && (decide (1 ≤ m) && readV Y m)) = true) (h' : n = m) : offCode Z Y n m = 0 ∧ offV Z Y n m = nearV (sumD Z Y n) n := by
  have e : offCode Z Y n m = 0 := by unfold offCode; rw [h, if_pos rfl, if_pos h']
  exact ⟨e, by unfold offV; rw [e, if_pos rfl]⟩
end Go.Proofs.Ytejhngkbkcalaaa
/-
  Plain definitions: settled numbers. No program in sight.
-/
namespace Go.Proofs.Ytejhngkbkcalaaa
open Go.RowKit
set_option linter.unusedVariables false
set_option linter.unusedSimpArgs false

theorem range_snoc {α : Type} (f : Nat → α) (k : Nat) : (List.range (k + 1)).map f = (List.range k).map f ++ [f k] := by simp [List.range_succ]
/-- How often the last of the first k numbers came in a row. -/
def rowZ (Z : Nat → Int) : Nat → Int
  | 0 => 0
  | k + 1 => if k = 0 then 1 else if Z k = Z (k - 1) then rowZ Z k + 1 else 1
theorem rowZ_bd (Z : Nat → Int) (k : Nat) : 0 ≤ rowZ Z k ∧ rowZ Z k ≤ k := by
  induction k with
  | zero => exact ⟨Int.le_refl 0, Int.le_refl 0⟩
  | succ k ih =>
    unfold rowZ
    split
    · omega
    · split <;> omega
def lastZ (Z : Nat → Int) (t : Int) : Nat → Int
  | 0 => 0
  | k + 1 => if t ≤ rowZ Z (k + 1) then Z k else if k = 0 then Z 0 else lastZ Z t k
theorem row_1 (Z : Nat → Int) : rowZ Z 1 = 1 := rfl
theorem last_1 (Z : Nat → Int) (t : Int) : lastZ Z t 1 = Z 0 := by
  show (if t ≤ rowZ Z 1 then Z 0 else _) = _
  split <;> rfl
theorem row_same {Z : Nat → Int} {m : Nat} (h : (Z (m + 1) != Z m) = false) : rowZ Z (m + 1 + 1) = rowZ Z (m + 1) + 1 := by
  have e : Z (m + 1) = Z m := by simpa using h
  show (if m + 1 = 0 then _ else if Z (m + 1) = Z (m + 1 - 1) then _ else _) = _
  rw [if_neg (by omega), if_pos (by simpa using e)]
theorem row_other {Z : Nat → Int} {m : Nat} (h : (Z (m + 1) != Z m) = true) : rowZ Z (m + 1 + 1) = 1 := by
  have e : Z (m + 1) ≠ Z m := by simpa using h
  show (if m + 1 = 0 then _ else if Z (m + 1) = Z (m + 1 - 1) then _ else _) = _
  rw [if_neg (by omega), if_neg (by simpa using e)]
theorem last_new {Z : Nat → Int} {t : Int} {k : Nat} (h : t ≤ rowZ Z (k + 1)) : lastZ Z t (k + 1) = Z k := by
  show (if t ≤ rowZ Z (k + 1) then _ else _) = _
  rw [if_pos h]
theorem last_old {Z : Nat → Int} {t : Int} {m : Nat} (h : ¬ t ≤ rowZ Z (m + 1 + 1)) : lastZ Z t (m + 1 + 1) = lastZ Z t (m + 1) := by
  show (if t ≤ rowZ Z (m + 1 + 1) then _ else if m + 1 = 0 then _ else _) = _
  rw [if_neg h, if_neg (by omega)]
def settledOk (Z : Nat → Int) (t : Int) (n : Nat) : Bool := readV Z n && inB t 1 32
def settledL (Z : Nat → Int) (t : Int) (n : Nat) : List Int := if settledOk Z t n = true then (List.range n).map fun j => lastZ Z t (j + 1) else []
def settledCode (Z : Nat → Int) (t : Int) (n : Nat) : Int := if settledOk Z t n = true then 0 else 2
theorem settledL_len {Z : Nat → Int} {t : Int} {n : Nat} (hn : n ≤ 1048576) : (settledL Z t n).length ≤ 1048576 := by
  unfold settledL; split
  · simpa using hn
  · simp
theorem settled_no {Z : Nat → Int} {t : Int} {n : Nat} (h : settledOk Z t n = false) : settledL Z t n = [] ∧ settledCode Z t n = 2 := by
  unfold settledL settledCode; rw [h]; exact ⟨rfl, rfl⟩
theorem settled_yes {Z : Nat → Int} {t : Int} {n : Nat} (h : settledOk Z t n = true) : settledL Z t n = ((List.range n).map fun j => lastZ Z t (j + 1)) ∧ settledCode Z t n = 0 := by
  unfold settledL settledCode; rw [h]; exact ⟨rfl, rfl⟩
end Go.Proofs.Ytejhngkbkcalaaa
/-
  Plain definitions: the nearest of places. No program in sight.
-/
namespace Go.Proofs.Ytejhngkbkcalaaa
open Go.RowKit
set_option linter.unusedVariables false
set_option linter.unusedSimpArgs false

def absV (x : Int) : Int := if x < 0 then -x else x
/-- The first index below k whose number is nearest to p (0 where k = 0). -/
def nearIx (Z : Nat → Int) (p : Int) : Nat → Nat
  | 0 => 0
  | k + 1 => if absV (Z k - p) < absV (Z (nearIx Z p k) - p) then k else nearIx Z p k
theorem nearIx_lt (Z : Nat → Int) (p : Int) : ∀ k, 0 < k → nearIx Z p k < k := by
  intro k hk
  induction k with
  | zero => omega
  | succ k ih =>
    show (if absV (Z k - p) < absV (Z (nearIx Z p k) - p) then k else nearIx Z p k) < k + 1
    split
    · omega
    · rcases Nat.eq_zero_or_pos k with rfl | h
      · exact Nat.lt_succ_of_le (Nat.le_refl _)
      · have := ih h; omega
theorem nearIx_yes {Z : Nat → Int} {p : Int} {k : Nat} (h : absV (Z k - p) < absV (Z (nearIx Z p k) - p)) : nearIx Z p (k + 1) = k := if_pos h
theorem nearIx_no {Z : Nat → Int} {p : Int} {k : Nat} (h : ¬ absV (Z k - p) < absV (Z (nearIx Z p k) - p)) : nearIx Z p (k + 1) = nearIx Z p k := if_neg h
theorem nearIx_one (Z : Nat → Int) (p : Int) : nearIx Z p 1 = 0 := by
  show (if absV (Z 0 - p) < absV (Z 0 - p) then 0 else 0) = 0
  split <;> rfl
theorem absV_max (x y : Int) : (if x - y < y - x then y - x else x - y) = absV (x - y) := by
  unfold absV; split <;> split <;> omega
theorem rises_bd {Z : Nat → Int} {lo hi : Int} {n j : Nat} (h : rises Z lo hi n = true) (hj : j < n) : lo ≤ Z j ∧ Z j ≤ hi := by
  induction n with
  | zero => omega
  | succ n ih =>
    have hs : rises Z lo hi n = true := rises_mono h (Nat.le_succ n)
    rcases Nat.lt_or_ge j n with h1 | h1
    · exact ih hs h1
    · have : j = n := by omega
      subst this
      rw [rises_step hs] at h
      have hi : inB (Z j) lo hi = true := by
        cases hb : inB (Z j) lo hi
        · rw [hb] at h; simp at h
        · rfl
      exact inB_true.1 hi
def switchCode (Z : Nat → Int) (n : Nat) (p : Int) : Int := if (rises Z 0 4000000 n && decide (n ≤ 16)) = true then (if inB p 0 4000000 = true then (if n = 0 then 3 else 0) else 2) else 1
def switchV (Z : Nat → Int) (n : Nat) (p : Int) : Int := if switchCode Z n p = 0 then (nearIx Z p n : Int) else 0
end Go.Proofs.Ytejhngkbkcalaaa
/-
  Plain definitions: turns, speeds, missed switches. No program in sight.
-/
namespace Go.Proofs.Ytejhngkbkcalaaa
open Go.RowKit
set_option linter.unusedVariables false
set_option linter.unusedSimpArgs false

def okL (b : Bool) (L : List Int) : List Int := if b = true then L else []
def okC (b : Bool) (c : Int) : Int := if b = true then 0 else c
theorem okL_no (L : List Int) : okL false L = [] := rfl
theorem okL_yes (L : List Int) : okL true L = L := rfl
theorem okC_no (c : Int) : okC false c = c := rfl
theorem okC_yes (c : Int) : okC true c = 0 := rfl
theorem okL_len {b : Bool} {L : List Int} {n : Nat} (h : L.length ≤ n) : (okL b L).length ≤ n := by
  cases b
  · show 0 ≤ n; omega
  · exact h
/-- One more number at the end, or none. -/
def put1 (b : Bool) (x : Int) : List Int := if b = true then [x] else []
def accB (q : Nat → Bool) (x : Nat → Int) : Nat → List Int
  | 0 => []
  | j + 1 => accB q x j ++ put1 (q j) (x j)
theorem accB_len (q : Nat → Bool) (x : Nat → Int) (n : Nat) : (accB q x n).length ≤ n := by
  induction n with
  | zero => exact Nat.le_refl _
  | succ n ih =>
    show (accB q x n ++ put1 (q n) (x n)).length ≤ n + 1
    rw [List.length_append]
    have : (put1 (q n) (x n)).length ≤ 1 := by unfold put1; split <;> simp
    omega
theorem accB_yes {q : Nat → Bool} {x : Nat → Int} {j : Nat} (h : q j = true) : accB q x (j + 1) = accB q x j ++ [x j] := by
  show accB q x j ++ put1 (q j) (x j) = _
  rw [h]; rfl
theorem accB_no {q : Nat → Bool} {x : Nat → Int} {j : Nat} (h : q j = false) : accB q x (j + 1) = accB q x j := by
  show accB q x j ++ put1 (q j) (x j) = _
  rw [h]; exact List.append_nil _
/-- Behind passing j + 1 the car goes the other way. -/
def turnB (S : Nat → Int) (j : Nat) : Bool := (decide (S j < S (j + 1))) != (decide (S (j + 1) < S (j + 2)))
def turnsA (S : Nat → Int) (j : Nat) : List Int := accB (turnB S) (fun j => (j : Int) + 1) j
/-- The speed between passings j and j + 1. -/
def spdV (Z S T : Nat → Int) (j : Nat) : Int := nearV (absV (Z (S (j + 1)).toNat - Z (S j).toNat)) (T (j + 1) - T j)
def speedsA (Z : Nat → Int) (S T : Nat → Int) (j : Nat) : List Int := (List.range j).map (spdV Z S T)
theorem speedsA_len (Z S T : Nat → Int) (j : Nat) : (speedsA Z S T j).length = j := by simp [speedsA]
theorem speedsA_next (Z S T : Nat → Int) (j : Nat) : speedsA Z S T (j + 1) = speedsA Z S T j ++ [spdV Z S T j] := range_snoc _ j
theorem speedsA_at {Z S T : Nat → Int} {j k : Nat} (h : k < j) : (speedsA Z S T j).getD k 0 = spdV Z S T k := by simp [speedsA, h]
theorem absV_bd {x a : Int} (h1 : -a ≤ x) (h2 : x ≤ a) : 0 ≤ absV x ∧ absV x ≤ a := by unfold absV; split <;> omega
theorem absV_max' (x : Int) : max x (-x) = absV x := by unfold absV; split <;> omega
def fastB (Z S T : Nat → Int) (most : Int) (j : Nat) : Bool := decide (most < spdV Z S T j)
def fastA (Z S T : Nat → Int) (most : Int) (j : Nat) : List Int := accB (fastB Z S T most) (fun j => (j : Int) + 1) j
def fastOk (Z : Nat → Int) (n : Nat) (S T : Nat → Int) (m : Nat) (most : Int) : Bool := passOk Z n S T m && inB most 0 100000
def fastC (Z : Nat → Int) (n : Nat) (S T : Nat → Int) (m : Nat) (most : Int) : Int := if passOk Z n S T m = true then okC (inB most 0 100000) 2 else 1
end Go.Proofs.Ytejhngkbkcalaaa
/-
  Plain definitions: doors. No program in sight.
-/
namespace Go.Proofs.Ytejhngkbkcalaaa
open Go.RowKit
set_option linter.unusedVariables false
set_option linter.unusedSimpArgs false

structure Dr where
  p : Int
  k : Int
  r : Int
deriving DecidableEq
def Dr.val (d : Dr) : Value := .agg #[.int .i64 d.p, .int .i64 d.k, .int .i64 d.r]
def Dr.zero : Dr := ⟨0, 0, 0⟩
def Dr.ok (d : Dr) : Bool := validDoor d.p d.k d.r
/-- Looser than valid: what the steps need. -/
def Dr.fits (d : Dr) : Prop := 0 ≤ d.p ∧ d.p ≤ 3 ∧ 0 ≤ d.k ∧ d.k ≤ 2 ∧ 0 ≤ d.r ∧ d.r ≤ 3
theorem Dr.ok_fits {d : Dr} (h : d.ok = true) : d.fits := by
  unfold Dr.ok validDoor at h
  rw [Bool.and_eq_true, inB_true] at h
  obtain ⟨⟨h1, h2⟩, h3⟩ := h
  split at h3
  · rw [Bool.and_eq_true, inB_true, inB_true] at h3
    exact ⟨h1, h2, h3.1.1, h3.1.2, h3.2.1, h3.2.2⟩
  · rw [Bool.and_eq_true, beq_iff_eq, beq_iff_eq] at h3
    exact ⟨h1, h2, by omega, by omega, by omega, by omega⟩
def tickD (d : Dr) : Dr := if moves d.p = true then (if d.k + 1 < 3 then ⟨d.p, d.k + 1, d.r⟩ else if d.p = 3 then ⟨0, 0, 0⟩ else if d.r = 0 then ⟨2, 0, 0⟩ else ⟨3, 0, d.r⟩) else d
def doorMay (d : Dr) (ev : Int) : Bool := if ev = 4 then true else if ev = 1 then (d.p == 0 || d.p == 3) else if ev = 2 then d.p == 2 else (d.p == 3 && decide (d.r < 3))
def doorStep (d : Dr) (ev : Int) : Dr := if doorMay d ev = true then (if ev = 4 then tickD d else if ev = 1 then ⟨1, 0, 0⟩ else if ev = 2 then ⟨3, 0, 0⟩ else ⟨1, 0, d.r + 1⟩) else d
theorem moves_true {p : Int} : moves p = true ↔ p = 1 ∨ p = 3 := by simp [moves]
theorem ok_iff (d : Dr) : d.ok = true ↔ ((d.p = 0 ∨ d.p = 2) ∧ d.k = 0 ∧ d.r = 0) ∨ ((d.p = 1 ∨ d.p = 3) ∧ 0 ≤ d.k ∧ d.k ≤ 2 ∧ 0 ≤ d.r ∧ d.r ≤ 3) := by
  unfold Dr.ok validDoor
  rw [Bool.and_eq_true, inB_true]
  by_cases h : moves d.p = true
  · rw [if_pos h, Bool.and_eq_true, inB_true, inB_true]
    rw [moves_true] at h
    omega
  · rw [if_neg h, Bool.and_eq_true, beq_iff_eq, beq_iff_eq]
    rw [moves_true] at h
    omega
theorem tickD_ok {d : Dr} (h : d.ok = true) : (tickD d).ok = true := by
  rw [ok_iff] at h ⊢
  unfold tickD
  by_cases hm : moves d.p = true
  · rw [if_pos hm]
    rw [moves_true] at hm
    repeat' split
    all_goals (dsimp only; omega)
  · rw [if_neg hm]; exact h
theorem doorStep_ok {d : Dr} {ev : Int} (h : d.ok = true) : (doorStep d ev).ok = true := by
  unfold doorStep
  split
  · rename_i hm
    unfold doorMay at hm
    split
    · exact tickD_ok h
    · split
      · rfl
      · split
        · rfl
        · rw [if_neg ‹_›, if_neg ‹_›, if_neg ‹_›, Bool.and_eq_true, decide_eq_true_eq, beq_iff_eq] at hm
          have := Dr.ok_fits h
          rw [ok_iff]
          unfold Dr.fits at this
          dsimp only
          omega
  · exact h
def doorCode (d : Dr) (ev : Int) : Int := if d.ok = true then (if inB ev 1 4 = true then (if doorMay d ev = true then 0 else 6) else 2) else 1
def doorV (d : Dr) (ev : Int) : Dr := if doorCode d ev = 0 then doorStep d ev else Dr.zero
theorem door_1 {d : Dr} {ev : Int} (h : d.ok = false) : doorCode d ev = 1 ∧ doorV d ev = Dr.zero := by
  have : doorCode d ev = 1 := by simp [doorCode, h]
  exact ⟨this, by simp [doorV, this]⟩
theorem door_2 {d : Dr} {ev : Int} (h : d.ok = true) (h2 : inB ev 1 4 = false) : doorCode d ev = 2 ∧ doorV d ev = Dr.zero := by
  have : doorCode d ev = 2 := by simp [doorCode, h, h2]
  exact ⟨this, by simp [doorV, this]⟩
theorem door_6 {d : Dr} {ev : Int} (h : d.ok = true) (h2 : inB ev 1 4 = true) (h3 : doorMay d ev = false) : doorCode d ev = 6 ∧ doorV d ev = Dr.zero := by
  have : doorCode d ev = 6 := by simp [doorCode, h, h2, h3]
  exact ⟨this, by simp [doorV, this]⟩
theorem door_0 {d : Dr} {ev : Int} (h : d.ok = true) (h2 : inB ev 1 4 = true) (h3 : doorMay d ev = true) : doorCode d ev = 0 ∧ doorV d ev = doorStep d ev := by
  have : doorCode d ev = 0 := by simp [doorCode, h, h2, h3]
  exact ⟨this, by simp [doorV, this]⟩
end Go.Proofs.Ytejhngkbkcalaaa
/-
  Plain definitions: after how many ticks a door is shut. No program in sight.
-/
namespace Go.Proofs.Ytejhngkbkcalaaa
open Go.RowKit
set_option linter.unusedVariables false
set_option linter.unusedSimpArgs false

/-- After how many ticks a door is shut. -/
def leftD (d : Dr) : Int := if d.p = 0 then 0 else if d.p = 3 then 3 - d.k else if d.p = 2 then 3 else 6 - d.k
/-- A tick behind which an open door is shutting. -/
def pullD (d : Dr) : Dr := tickD (if d.p = 2 then ⟨3, 0, 0⟩ else d)
theorem pullD_ok {d : Dr} (h : d.ok = true) : (pullD d).ok = true := by
  unfold pullD
  split
  · exact tickD_ok rfl
  · exact tickD_ok h
theorem pullD_left {d : Dr} (h : d.ok = true) (h0 : d.p ≠ 0) : leftD (pullD d) = leftD d - 1 := by
  rw [ok_iff] at h
  obtain ⟨p, k, r⟩ := d
  dsimp only at h h0
  rcases (show p = 2 ∨ p = 1 ∨ p = 3 by omega) with rfl | rfl | rfl
  · simp [pullD, tickD, moves, leftD]
  · by_cases hk : k + 1 < 3
    · simp [pullD, tickD, moves, leftD, hk]; omega
    · by_cases hr : r = 0
      · simp [pullD, tickD, moves, leftD, hk, hr]; omega
      · simp [pullD, tickD, moves, leftD, hk, hr]; omega
  · by_cases hk : k + 1 < 3
    · simp [pullD, tickD, moves, leftD, hk]; omega
    · simp [pullD, tickD, moves, leftD, hk]; omega
theorem leftD_pos {d : Dr} (h : d.ok = true) : 0 ≤ leftD d ∧ leftD d ≤ 6 ∧ (d.p = 0 ↔ leftD d = 0) := by
  rw [ok_iff] at h
  unfold leftD
  repeat' split
  all_goals omega
def shutCode (d : Dr) : Int := if d.ok = true then 0 else 1
def shutV (d : Dr) : Int := if d.ok = true then leftD d else 0
end Go.Proofs.Ytejhngkbkcalaaa
/-
  Plain definitions: the controller as a step machine. No program in sight.
-/
namespace Go.Proofs.Ytejhngkbkcalaaa
open Go.RowKit
set_option linter.unusedVariables false
set_option linter.unusedSimpArgs false

/-- A state of the controller. -/
structure St where
  m : Int
  o : Bool
  a : Bool
  b : Bool
  e : Bool
deriving DecidableEq

def St.val (x : St) : Value := .agg #[.int .i64 x.m, .bool x.o, .bool x.a, .bool x.b, .bool x.e]
def St.ok (x : St) : Bool := inB x.m 0 4
def St.zero : St := ⟨0, false, false, false, false⟩

def allowed (x : St) (ev : Int) : Bool :=
  if ev = 1 then (x.m == 0) && x.e && !x.o
  else if ev = 2 then x.o
  else if ev = 3 then (x.m == 0) && !x.o && !x.a
  else if ev = 4 then (x.m == 0) && !x.o && !x.b
  else if ev = 5 then x.m == 1
  else if ev = 6 then x.m == 2
  else if ev = 7 then x.m == 3
  else if ev = 8 then x.m != 4
  else (x.m == 4) && !x.o
def settle (x : St) : St := if ((x.m == 0) && x.a && x.b) = true then { x with m := 1 } else x
def after (x : St) (ev : Int) : St :=
  settle (if ev = 1 then { x with o := true }
  else if ev = 2 then { x with o := false }
  else if ev = 3 then { x with a := true }
  else if ev = 4 then { x with b := true }
  else if ev = 5 then { x with m := 2, e := false, a := false, b := false }
  else if ev = 6 then { x with m := 3 }
  else if ev = 7 then { x with m := 0, e := true }
  else if ev = 8 then { x with m := 4, a := false, b := false }
  else { x with m := if x.e = true then 0 else 3 })
def step (x : St) (ev : Int) : St := if allowed x ev = true then after x ev else x
theorem settle_ok {x : St} (h : x.ok = true) : (settle x).ok = true := by
  unfold settle; split
  · rfl
  · exact h
theorem after_ok {x : St} {ev : Int} (h : x.ok = true) : (after x ev).ok = true := by
  unfold after
  apply settle_ok
  repeat' split
  all_goals first | exact h | rfl
  all_goals (unfold St.ok; simp only; split <;> rfl)
def nextCode (x : St) (ev : Int) : Int := if x.ok = true then (if inB ev 1 9 = true then (if allowed x ev = true then 0 else 6) else 2) else 1
def nextV (x : St) (ev : Int) : St := if nextCode x ev = 0 then after x ev else St.zero
theorem next_1 {x : St} {ev : Int} (h : x.ok = false) : nextCode x ev = 1 ∧ nextV x ev = St.zero := by
  have : nextCode x ev = 1 := by simp [nextCode, h]
  exact ⟨this, by simp [nextV, this]⟩
theorem next_2 {x : St} {ev : Int} (h : x.ok = true) (h2 : inB ev 1 9 = false) : nextCode x ev = 2 ∧ nextV x ev = St.zero := by
  have : nextCode x ev = 2 := by simp [nextCode, h, h2]
  exact ⟨this, by simp [nextV, this]⟩
theorem next_6 {x : St} {ev : Int} (h : x.ok = true) (h2 : inB ev 1 9 = true) (h3 : allowed x ev = false) : nextCode x ev = 6 ∧ nextV x ev = St.zero := by
  have : nextCode x ev = 6 := by simp [nextCode, h, h2, h3]
  exact ⟨this, by simp [nextV, this]⟩
theorem next_0 {x : St} {ev : Int} (h : x.ok = true) (h2 : inB ev 1 9 = true) (h3 : allowed x ev = true) : nextCode x ev = 0 ∧ nextV x ev = after x ev := by
  have : nextCode x ev = 0 := by simp [nextCode, h, h2, h3]
  exact ⟨this, by simp [nextV, this]⟩
theorem step_0 {x : St} {ev : Int} (h3 : allowed x ev = true) : step x ev = after x ev := by simp [step, h3]
end Go.Proofs.Ytejhngkbkcalaaa
/-
  Plain definitions: events of the controller. No program in sight.
-/
namespace Go.Proofs.Ytejhngkbkcalaaa
open Go.RowKit
set_option linter.unusedVariables false
set_option linter.unusedSimpArgs false

def allowA (x : St) (j : Nat) : List Int := accB (fun j => allowed x ((j : Int) + 1)) (fun j => (j : Int) + 1) j
/-- The state after the first k events; how many of them were refused; how often a ride ended. -/
def stE (x : St) (Z : Nat → Int) : Nat → St
  | 0 => x
  | k + 1 => step (stE x Z k) (Z k)
def refE (x : St) (Z : Nat → Int) : Nat → Nat
  | 0 => 0
  | k + 1 => refE x Z k + (if allowed (stE x Z k) (Z k) = true then 0 else 1)
def rideE (x : St) (Z : Nat → Int) : Nat → Nat
  | 0 => 0
  | k + 1 => rideE x Z k + (if (allowed (stE x Z k) (Z k) && (Z k == 7)) = true then 1 else 0)
theorem refE_le (x : St) (Z : Nat → Int) (k : Nat) : refE x Z k ≤ k := by
  induction k with
  | zero => exact Nat.le_refl _
  | succ k ih => show refE x Z k + _ ≤ k + 1; split <;> omega
theorem rideE_le (x : St) (Z : Nat → Int) (k : Nat) : rideE x Z k ≤ k := by
  induction k with
  | zero => exact Nat.le_refl _
  | succ k ih => show rideE x Z k + _ ≤ k + 1; split <;> omega
theorem run_no {x : St} {Z : Nat → Int} {k : Nat} (h : allowed (stE x Z k) (Z k) = false) : stE x Z (k + 1) = stE x Z k ∧ refE x Z (k + 1) = refE x Z k + 1 ∧ rideE x Z (k + 1) = rideE x Z k := by
  refine ⟨?_, ?_, ?_⟩
  · show step _ _ = _; unfold step; rw [h]; rfl
  · show refE x Z k + _ = _; rw [h]; rfl
  · show rideE x Z k + _ = _; rw [h]; rfl
theorem run_yes {x : St} {Z : Nat → Int} {k : Nat} (h : allowed (stE x Z k) (Z k) = true) : stE x Z (k + 1) = after (stE x Z k) (Z k) ∧ refE x Z (k + 1) = refE x Z k ∧ rideE x Z (k + 1) = rideE x Z k + (if (Z k == 7) = true then 1 else 0) := by
  refine ⟨?_, ?_, ?_⟩
  · show step _ _ = _; unfold step; rw [h]; rfl
  · show refE x Z k + _ = _; rw [h]; rfl
  · show rideE x Z k + _ = _; rw [h, Bool.true_and]
def badEv (Z : Nat → Int) (n : Nat) : Bool := any (fun j => !inB (Z j) 1 9) n
def runC (x : St) (Z : Nat → Int) (n : Nat) : Int := if inB x.m 0 4 = true then (if badEv Z n = true then 2 else if n ≤ 64 then 0 else 7) else 1
def runS (x : St) (Z : Nat → Int) (n : Nat) : St := if runC x Z n = 0 then stE x Z n else St.zero
def runR (x : St) (Z : Nat → Int) (n : Nat) : Int := if runC x Z n = 0 then (refE x Z n : Int) else 0
def runD (x : St) (Z : Nat → Int) (n : Nat) : Int := if runC x Z n = 0 then (rideE x Z n : Int) else 0
theorem run_c1 {x : St} {Z : Nat → Int} {n : Nat} (h : inB x.m 0 4 = false) : runC x Z n = 1 := by unfold runC; rw [h, if_neg (by decide)]
theorem run_c2 {x : St} {Z : Nat → Int} {n : Nat} (h : inB x.m 0 4 = true) (h2 : badEv Z n = true) : runC x Z n = 2 := by unfold runC; rw [h, if_pos rfl, h2, if_pos rfl]
theorem run_c7 {x : St} {Z : Nat → Int} {n : Nat} (h : inB x.m 0 4 = true) (h2 : badEv Z n = false) (h3 : ¬ n ≤ 64) : runC x Z n = 7 := by unfold runC; rw [h, if_pos rfl, h2, if_neg (by decide), if_neg h3]
theorem run_c0 {x : St} {Z : Nat → Int} {n : Nat} (h : inB x.m 0 4 = true) (h2 : badEv Z n = false) (h3 : n ≤ 64) : runC x Z n = 0 := by unfold runC; rw [h, if_pos rfl, h2, if_neg (by decide), if_pos h3]
theorem run_x {x : St} {Z : Nat → Int} {n : Nat} {c : Int} (h : runC x Z n = c) (hc : c ≠ 0) : runC x Z n = c ∧ runS x Z n = St.zero ∧ runR x Z n = 0 ∧ runD x Z n = 0 := by
  refine ⟨h, ?_, ?_, ?_⟩
  · unfold runS; rw [if_neg (by rw [h]; exact hc)]
  · unfold runR; rw [if_neg (by rw [h]; exact hc)]
  · unfold runD; rw [if_neg (by rw [h]; exact hc)]
theorem run_ok {x : St} {Z : Nat → Int} {n : Nat} (h : runC x Z n = 0) : runC x Z n = 0 ∧ runS x Z n = stE x Z n ∧ runR x Z n = (refE x Z n : Int) ∧ runD x Z n = (rideE x Z n : Int) := by
  refine ⟨h, ?_, ?_, ?_⟩
  · unfold runS; rw [if_pos h]
  · unfold runR; rw [if_pos h]
  · unfold runD; rw [if_pos h]
theorem badEv_at {Z : Nat → Int} {n j : Nat} (h : badEv Z n = false) (hj : j < n) : inB (Z j) 1 9 = true := by
  have := any_false.1 h j hj
  simpa using this
end Go.Proofs.Ytejhngkbkcalaaa
/-
  A state of the controller in a block of its own. No program in sight but the model's memory.
-/
namespace Go.Proofs.Ytejhngkbkcalaaa
open Go.RowKit
set_option linter.unusedVariables false
set_option linter.unusedSimpArgs false

def stV (x : St) (q : Nat) : Value := if q = 0 then .int .i64 x.m else if q = 1 then .bool x.o else if q = 2 then .bool x.a else if q = 3 then .bool x.b else .bool x.e
/-- Block g of w holds the state x, and may be written. -/
def StAt (w : World) (g : Nat) (x : St) : Prop := OwnIn g (g + 1) w (some ⟨g, 0, none⟩) 5 (stV x)
section
variable {w w' : World} {g : Nat} {x y : St}
theorem StAt.below (h : StAt w g x) (hb : Below w.heap.size w w') : StAt w' g x := OwnIn.below h hb
theorem StAt.lt (h : StAt w g x) : g < w.heap.size := OwnIn.block h (by decide)
theorem StAt.c0 (h : StAt w g x) : w.cell? ⟨g, 0, none⟩ = some (.int .i64 x.m) := OwnIn.at h (by decide)
theorem StAt.c1 (h : StAt w g x) : w.cell? ⟨g, 1, none⟩ = some (.bool x.o) := OwnIn.at h (by decide)
theorem StAt.c2 (h : StAt w g x) : w.cell? ⟨g, 2, none⟩ = some (.bool x.a) := OwnIn.at h (by decide)
theorem StAt.c3 (h : StAt w g x) : w.cell? ⟨g, 3, none⟩ = some (.bool x.b) := OwnIn.at h (by decide)
theorem StAt.c4 (h : StAt w g x) : w.cell? ⟨g, 4, none⟩ = some (.bool x.e) := OwnIn.at h (by decide)
theorem StAt.fr (h : StAt w g x) {j : Nat} (hj : j < 5) : w.frozen? ⟨g, j, none⟩ = false := by
  obtain ⟨g', e, _, _, _, hc⟩ := h (by decide)
  have e2 : g = g' := by injection e with e1; injection e1
  subst e2
  exact (hc j hj).2
theorem stV_made (m : Int) (o a b e : Bool) (q : Nat) (hq : q < 5) : (#[Value.int .i64 m, .bool o, .bool a, .bool b, .bool e] : Array Value)[q]?.getD (.int .i64 0) = stV ⟨m, o, a, b, e⟩ q := by
  rcases (show q = 0 ∨ q = 1 ∨ q = 2 ∨ q = 3 ∨ q = 4 by omega) with rfl | rfl | rfl | rfl | rfl <;> rfl
theorem StAt.made (w : World) (t : TypeId) (m : Int) (o a b e : Bool) : StAt (w.alloc (.cells #[.int .i64 m, .bool o, .bool a, .bool b, .bool e] t)) w.heap.size ⟨m, o, a, b, e⟩ :=
  (own_new w #[.int .i64 m, .bool o, .bool a, .bool b, .bool e] t (Nat.le_refl _) (Nat.lt_succ_self _)).cong (fun q hq => stV_made m o a b e q hq)
theorem StAt.put (h : StAt w g x) (m : Int) (o a b e : Bool) : StAt (((((w.setCell ⟨g, 0, none⟩ (.int .i64 m)).setCell ⟨g, 1, none⟩ (.bool o)).setCell ⟨g, 2, none⟩ (.bool a)).setCell ⟨g, 3, none⟩ (.bool b)).setCell ⟨g, 4, none⟩ (.bool e)) g ⟨m, o, a, b, e⟩ :=
  (OwnIn.set (OwnIn.set (OwnIn.set (OwnIn.set (OwnIn.set h (show 0 < 5 by decide) _) (show 1 < 5 by decide) _) (show 2 < 5 by decide) _) (show 3 < 5 by decide) _) (show 4 < 5 by decide) _).cong (fun q hq => by
    rcases (show q = 0 ∨ q = 1 ∨ q = 2 ∨ q = 3 ∨ q = 4 by omega) with rfl | rfl | rfl | rfl | rfl <;> rfl)
theorem keep_put (w : World) (g : Nat) (u0 u1 u2 u3 u4 : Value) : Keep g (g + 1) w (((((w.setCell ⟨g, 0, none⟩ u0).setCell ⟨g, 1, none⟩ u1).setCell ⟨g, 2, none⟩ u2).setCell ⟨g, 3, none⟩ u3).setCell ⟨g, 4, none⟩ u4) :=
  (((((Keep.refl _ _ w).set (Nat.le_refl _) (Nat.lt_succ_self _)).set (Nat.le_refl _) (Nat.lt_succ_self _)).set (Nat.le_refl _) (Nat.lt_succ_self _)).set (Nat.le_refl _) (Nat.lt_succ_self _)).set (Nat.le_refl _) (Nat.lt_succ_self _)
theorem StAt.keep {lo hi : Nat} (h : StAt w g x) (k : Keep lo hi w w') (hd : g + 1 ≤ lo ∨ hi ≤ g) : StAt w' g x := OwnIn.keep h k hd
theorem size_put (w : World) (g : Nat) (u0 u1 u2 u3 u4 : Value) : (((((w.setCell ⟨g, 0, none⟩ u0).setCell ⟨g, 1, none⟩ u1).setCell ⟨g, 2, none⟩ u2).setCell ⟨g, 3, none⟩ u3).setCell ⟨g, 4, none⟩ u4).heap.size = w.heap.size := by simp [World.setCell]
end
end Go.Proofs.Ytejhngkbkcalaaa
/-
  Plain definitions: a door in a block of its own, events of a door one after another.
-/
namespace Go.Proofs.Ytejhngkbkcalaaa
open Go.RowKit
set_option linter.unusedVariables false
set_option linter.unusedSimpArgs false

def drE (d : Dr) (Z : Nat → Int) : Nat → Dr
  | 0 => d
  | k + 1 => doorStep (drE d Z k) (Z k)
theorem drE_ok {d : Dr} {Z : Nat → Int} (h : d.ok = true) (k : Nat) : (drE d Z k).ok = true := by
  induction k with
  | zero => exact h
  | succ k ih => exact doorStep_ok ih
def refB (d : Dr) (Z : Nat → Int) (k : Nat) : Bool := !doorMay (drE d Z k) (Z k)
def refL (d : Dr) (Z : Nat → Int) (n : Nat) : List Int := accB (refB d Z) (fun j => (j : Int)) n
theorem refL_len (d : Dr) (Z : Nat → Int) (n : Nat) : (refL d Z n).length ≤ n := accB_len _ _ _
theorem refL_no {d : Dr} {Z : Nat → Int} {k : Nat} (h : doorMay (drE d Z k) (Z k) = false) : refL d Z (k + 1) = refL d Z k ++ [(k : Int)] := accB_yes (by unfold refB; rw [h]; rfl)
theorem refL_yes {d : Dr} {Z : Nat → Int} {k : Nat} (h : doorMay (drE d Z k) (Z k) = true) : refL d Z (k + 1) = refL d Z k := accB_no (by unfold refB; rw [h]; rfl)
def badDv (Z : Nat → Int) (n : Nat) : Bool := any (fun j => !inB (Z j) 1 4) n
def drC (d : Dr) (Z : Nat → Int) (n : Nat) : Int := if d.ok = true then (if n ≤ 60 then (if badDv Z n = true then 2 else 0) else 2) else 1
def drO (d : Dr) (Z : Nat → Int) (n : Nat) : Dr := if drC d Z n = 0 then drE d Z n else Dr.zero
def drL (d : Dr) (Z : Nat → Int) (n : Nat) : List Int := if drC d Z n = 0 then refL d Z n else []
theorem dr_c1 {d : Dr} {Z : Nat → Int} {n : Nat} (h : d.ok = false) : drC d Z n = 1 := by unfold drC; rw [h, if_neg (by decide)]
theorem dr_c2n {d : Dr} {Z : Nat → Int} {n : Nat} (h : d.ok = true) (h3 : ¬ n ≤ 60) : drC d Z n = 2 := by unfold drC; rw [h, if_pos rfl, if_neg h3]
theorem dr_c2b {d : Dr} {Z : Nat → Int} {n : Nat} (h : d.ok = true) (h3 : n ≤ 60) (h2 : badDv Z n = true) : drC d Z n = 2 := by unfold drC; rw [h, if_pos rfl, if_pos h3, h2, if_pos rfl]
theorem dr_c0 {d : Dr} {Z : Nat → Int} {n : Nat} (h : d.ok = true) (h3 : n ≤ 60) (h2 : badDv Z n = false) : drC d Z n = 0 := by unfold drC; rw [h, if_pos rfl, if_pos h3, h2, if_neg (by decide)]
theorem dr_0 {d : Dr} {Z : Nat → Int} {n : Nat} (h : drC d Z n = 0) : d.ok = true ∧ n ≤ 60 ∧ badDv Z n = false := by
  cases h1 : d.ok
  · rw [dr_c1 h1] at h; simp at h
  · by_cases h2 : n ≤ 60
    · cases h3 : badDv Z n
      · exact ⟨rfl, h2, rfl⟩
      · rw [dr_c2b h1 h2 h3] at h; simp at h
    · rw [dr_c2n h1 h2] at h; simp at h
theorem dr_x {d : Dr} {Z : Nat → Int} {n : Nat} {c : Int} (h : drC d Z n = c) (hc : c ≠ 0) : drC d Z n = c ∧ drO d Z n = Dr.zero ∧ drL d Z n = [] := by
  refine ⟨h, ?_, ?_⟩
  · unfold drO; rw [if_neg (by rw [h]; exact hc)]
  · unfold drL; rw [if_neg (by rw [h]; exact hc)]
theorem dr_ok {d : Dr} {Z : Nat → Int} {n : Nat} (h : drC d Z n = 0) : drC d Z n = 0 ∧ drO d Z n = drE d Z n ∧ drL d Z n = refL d Z n := by
  refine ⟨h, ?_, ?_⟩
  · unfold drO; rw [if_pos h]
  · unfold drL; rw [if_pos h]
theorem badDv_at {Z : Nat → Int} {n j : Nat} (h : badDv Z n = false) (hj : j < n) : inB (Z j) 1 4 = true := by
  have := any_false.1 h j hj
  simpa using this

def drV3 (x : Dr) (q : Nat) : Value := if q = 0 then .int .i64 x.p else if q = 1 then .int .i64 x.k else .int .i64 x.r
/-- Block g of w holds the door x, and may be written. -/
def DrAt (w : World) (g : Nat) (x : Dr) : Prop := OwnIn g (g + 1) w (some ⟨g, 0, none⟩) 3 (drV3 x)
section
variable {w w' : World} {g : Nat} {x y : Dr}
theorem DrAt.below (h : DrAt w g x) (hb : Below w.heap.size w w') : DrAt w' g x := OwnIn.below h hb
theorem DrAt.lt (h : DrAt w g x) : g < w.heap.size := OwnIn.block h (by decide)
theorem DrAt.c0 (h : DrAt w g x) : w.cell? ⟨g, 0, none⟩ = some (.int .i64 x.p) := OwnIn.at h (by decide)
theorem DrAt.c1 (h : DrAt w g x) : w.cell? ⟨g, 1, none⟩ = some (.int .i64 x.k) := OwnIn.at h (by decide)
theorem DrAt.c2 (h : DrAt w g x) : w.cell? ⟨g, 2, none⟩ = some (.int .i64 x.r) := OwnIn.at h (by decide)
theorem DrAt.fr (h : DrAt w g x) {j : Nat} (hj : j < 3) : w.frozen? ⟨g, j, none⟩ = false := by
  obtain ⟨g', e, _, _, _, hc⟩ := h (by decide)
  have e2 : g = g' := by injection e with e1; injection e1
  subst e2
  exact (hc j hj).2
theorem drV3_made (p k r : Int) (q : Nat) (hq : q < 3) : (#[Value.int .i64 p, .int .i64 k, .int .i64 r] : Array Value)[q]?.getD (.int .i64 0) = drV3 ⟨p, k, r⟩ q := by
  rcases (show q = 0 ∨ q = 1 ∨ q = 2 by omega) with rfl | rfl | rfl <;> rfl
theorem DrAt.made (w : World) (t : TypeId) (p k r : Int) : DrAt (w.alloc (.cells #[.int .i64 p, .int .i64 k, .int .i64 r] t)) w.heap.size ⟨p, k, r⟩ :=
  (own_new w #[.int .i64 p, .int .i64 k, .int .i64 r] t (Nat.le_refl _) (Nat.lt_succ_self _)).cong (fun q hq => drV3_made p k r q hq)
theorem DrAt.put (h : DrAt w g x) (p k r : Int) : DrAt (((w.setCell ⟨g, 0, none⟩ (.int .i64 p)).setCell ⟨g, 1, none⟩ (.int .i64 k)).setCell ⟨g, 2, none⟩ (.int .i64 r)) g ⟨p, k, r⟩ :=
  (OwnIn.set (OwnIn.set (OwnIn.set h (show 0 < 3 by decide) _) (show 1 < 3 by decide) _) (show 2 < 3 by decide) _).cong (fun q hq => by
    rcases (show q = 0 ∨ q = 1 ∨ q = 2 by omega) with rfl | rfl | rfl <;> rfl)
theorem keep_put3 (w : World) (g : Nat) (u0 u1 u2 : Value) : Keep g (g + 1) w (((w.setCell ⟨g, 0, none⟩ u0).setCell ⟨g, 1, none⟩ u1).setCell ⟨g, 2, none⟩ u2) :=
  (((Keep.refl _ _ w).set (Nat.le_refl _) (Nat.lt_succ_self _)).set (Nat.le_refl _) (Nat.lt_succ_self _)).set (Nat.le_refl _) (Nat.lt_succ_self _)
theorem DrAt.keep {lo hi : Nat} (h : DrAt w g x) (k : Keep lo hi w w') (hd : g + 1 ≤ lo ∨ hi ≤ g) : DrAt w' g x := OwnIn.keep h k hd
theorem size_put3 (w : World) (g : Nat) (u0 u1 u2 : Value) : (((w.setCell ⟨g, 0, none⟩ u0).setCell ⟨g, 1, none⟩ u1).setCell ⟨g, 2, none⟩ u2).heap.size = w.heap.size := by simp [World.setCell]
end
end Go.Proofs.Ytejhngkbkcalaaa
/-
  Plain definitions: workers. No program in sight.
-/
namespace Go.Proofs.Ytejhngkbkcalaaa
open Go.RowKit
open Go.Op (bytesLess)
set_option linter.unusedVariables false
set_option linter.unusedSimpArgs false

theorem less_total : ∀ a b : List UInt8, (bytesLess a b || a == b) = !bytesLess b a
  | [], [] => by simp [bytesLess]
  | [], _ :: _ => by simp [bytesLess]
  | _ :: _, [] => by simp [bytesLess]
  | x :: r, y :: s => by
    have ih := less_total r s
    simp only [bytesLess]
    rcases Nat.lt_trichotomy x.toNat y.toNat with h | h | h
    · have h1 : x < y := by simpa [UInt8.lt_iff_toNat_lt] using h
      have h2 : ¬ y < x := by rw [UInt8.lt_iff_toNat_lt]; omega
      have h3 : ¬ x = y := fun e => by subst e; omega
      have h4 : ¬ y = x := fun e => h3 e.symm
      simp [h1, h2, h3, h4]
    · have h3 : x = y := UInt8.toNat_inj.1 h
      subst h3
      simpa using ih
    · have h1 : ¬ x < y := by rw [UInt8.lt_iff_toNat_lt]; omega
      have h2 : y < x := by simpa [UInt8.lt_iff_toNat_lt] using h
      have h3 : ¬ x = y := fun e => by subst e; omega
      have h4 : ¬ y = x := fun e => h3 e.symm
      simp [h1, h2, h3, h4]
def sLt (x y : ByteArray) : Bool := bytesLess x.toList y.toList
theorem sLe_not (x y : ByteArray) : (bytesLess x.toList y.toList || x.toList == y.toList) = !sLt y x := less_total _ _
def smallB (c : UInt8) : Bool := inB c.toNat 97 122
def digitB (c : UInt8) : Bool := inB c.toNat 48 57
/-- Byte i of s may stand there in a name. -/
def nameAt (s : ByteArray) (i : Nat) : Bool := smallB (s.get! i) || (decide (0 < i) && digitB (s.get! i))
def nameB (s : ByteArray) : Bool := decide (1 ≤ s.size ∧ s.size ≤ 10) && !any (fun i => !nameAt s i) s.size
def wkOk (I : Nat → ByteArray) (F U : Nat → Int) (k : Nat) : Bool := nameB (I k) && (inB (F k) 0 1440 && (inB (U k) 0 1440 && decide (F k < U k)))
/-- The first k workers are valid. -/
def goodW (I : Nat → ByteArray) (F U : Nat → Int) : Nat → Bool
  | 0 => true
  | k + 1 => goodW I F U k && (wkOk I F U k && (k == 0 || sLt (I (k - 1)) (I k)))
def validW (I : Nat → ByteArray) (F U : Nat → Int) (n : Nat) : Bool := goodW I F U n && decide (n ≤ 12)
section
variable {I : Nat → ByteArray} {F U : Nat → Int}
theorem goodW_mono {k m : Nat} (h : goodW I F U m = true) (hk : k ≤ m) : goodW I F U k = true := by
  induction m with
  | zero => have : k = 0 := by omega
            subst this; exact h
  | succ m ih =>
    rcases Nat.lt_or_ge k (m + 1) with h1 | h1
    · unfold goodW at h
      rw [Bool.and_eq_true] at h
      exact ih h.1 (by omega)
    · have : k = m + 1 := by omega
      subst this; exact h
theorem goodW_no {k m : Nat} (h : goodW I F U (k + 1) = false) (hk : k < m) : goodW I F U m = false := by
  cases hn : goodW I F U m
  · rfl
  · rw [goodW_mono hn (show k + 1 ≤ m by omega)] at h; exact h
theorem goodW_step {k : Nat} (h : goodW I F U k = true) : goodW I F U (k + 1) = (wkOk I F U k && (k == 0 || sLt (I (k - 1)) (I k))) := by
  show (goodW I F U k && _) = _
  rw [h, Bool.true_and]
theorem goodW_at {k m : Nat} (h : goodW I F U m = true) (hk : k < m) : 0 ≤ F k ∧ F k < U k ∧ U k ≤ 1440 := by
  have h1 := goodW_mono h (show k + 1 ≤ m by omega)
  rw [goodW_step (goodW_mono h (show k ≤ m by omega))] at h1
  simp only [Bool.and_eq_true, wkOk, decide_eq_true_eq] at h1
  have h2 := inB_true.1 h1.1.2.1
  have h3 := inB_true.1 h1.1.2.2.1
  omega
end
def atL (F U : Nat → Int) (m : Int) (n : Nat) : List Int := accB (fun k => decide (F k ≤ m) && decide (m < U k)) (fun k => (k : Int)) n
theorem atL_len (F U : Nat → Int) (m : Int) (n : Nat) : (atL F U m n).length ≤ n := accB_len _ _ _
theorem atL_yes {F U : Nat → Int} {m : Int} {k : Nat} (h : F k ≤ m) (h' : m < U k) : atL F U m (k + 1) = atL F U m k ++ [(k : Int)] := accB_yes (by simp [h, h'])
theorem atL_no {F U : Nat → Int} {m : Int} {k : Nat} (h : ¬ (F k ≤ m ∧ m < U k)) : atL F U m (k + 1) = atL F U m k := accB_no (by
  rw [Bool.and_eq_false_iff, decide_eq_false_iff_not, decide_eq_false_iff_not]; omega)
theorem atL_mem {F U : Nat → Int} {m : Int} {n : Nat} {x : Int} (h : x ∈ atL F U m n) : 0 ≤ x ∧ x < n ∧ F x.toNat ≤ m ∧ m < U x.toNat := by
  induction n with
  | zero => simp [atL, accB] at h
  | succ n ih =>
    by_cases hc : F n ≤ m ∧ m < U n
    · rw [atL_yes hc.1 hc.2, List.mem_append, List.mem_singleton] at h
      rcases h with h | h
      · have := ih h; omega
      · subst h; simp; omega
    · rw [atL_no hc] at h
      have := ih h; omega
/-- The best of the first j of a list of workers; -1 if there is none. -/
def bestN (U : Nat → Int) (L : List Int) : Nat → Int
  | 0 => -1
  | j + 1 => if bestN U L j < 0 ∨ U (bestN U L j).toNat < U (L.getD j 0).toNat then L.getD j 0 else bestN U L j
theorem bestN_mem {U : Nat → Int} {L : List Int} (hL : ∀ x, x ∈ L → 0 ≤ x) {j : Nat} (h : j + 1 ≤ L.length) : bestN U L (j + 1) ∈ L := by
  induction j with
  | zero =>
    have e : bestN U L (0 + 1) = L.getD 0 0 := by unfold bestN; rw [if_pos (Or.inl (by unfold bestN; decide))]
    rw [e, List.getD_eq_getElem?_getD, List.getElem?_eq_getElem (by omega)]
    exact List.getElem_mem _
  | succ j ih =>
    unfold bestN
    split
    · rw [List.getD_eq_getElem?_getD, List.getElem?_eq_getElem (by omega)]
      exact List.getElem_mem _
    · exact ih (by omega)
/-- The workers that are taken from minute m on. -/
def few (F U : Nat → Int) (n : Nat) (t : Int) : Nat → Int → List Int → List Int × Int
  | 0, _, acc => (acc, 0)
  | f + 1, m, acc => if m < t then (if (atL F U m n).length = 0 then ([], 3) else
      few F U n t f (U (bestN U (atL F U m n) (atL F U m n).length).toNat) (acc ++ [bestN U (atL F U m n) (atL F U m n).length])) else (acc, 0)
theorem few_stop {F U : Nat → Int} {n f : Nat} {t m : Int} {acc : List Int} (h : ¬ m < t) : few F U n t f m acc = (acc, 0) := by
  cases f with
  | zero => rfl
  | succ f => unfold few; rw [if_neg h]
theorem few_none {F U : Nat → Int} {n f : Nat} {t m : Int} {acc : List Int} (h : m < t) (h2 : (atL F U m n).length = 0) : few F U n t (f + 1) m acc = ([], 3) := by
  conv => lhs; unfold few
  rw [if_pos h, if_pos h2]
theorem few_next {F U : Nat → Int} {n f : Nat} {t m : Int} {acc : List Int} (h : m < t) (h2 : ¬ (atL F U m n).length = 0) : few F U n t (f + 1) m acc = few F U n t f (U (bestN U (atL F U m n) (atL F U m n).length).toNat) (acc ++ [bestN U (atL F U m n) (atL F U m n).length]) := by
  conv => lhs; unfold few
  rw [if_pos h, if_neg h2]
/-- The bytes of the first n names; with n itself. -/
def sumW (I : Nat → ByteArray) : Nat → Nat
  | 0 => 0
  | k + 1 => sumW I k + (I k).size
def szW (I : Nat → ByteArray) (n : Nat) : Nat := n + sumW I n
theorem sumW_mono {I : Nat → ByteArray} {k m : Nat} (h : k ≤ m) : sumW I k ≤ sumW I m := by
  induction m with
  | zero => have : k = 0 := by omega
            subst this; exact Nat.le_refl _
  | succ m ih =>
    rcases Nat.lt_or_ge k (m + 1) with h1 | h1
    · exact Nat.le_trans (ih (by omega)) (Nat.le_add_right _ _)
    · have : k = m + 1 := by omega
      subst this; exact Nat.le_refl _
theorem szW_n {I : Nat → ByteArray} {n : Nat} (h : szW I n ≤ 1048576) : n ≤ 1048576 := by unfold szW at h; omega
theorem szW_at {I : Nat → ByteArray} {n k : Nat} (h : szW I n ≤ 1048576) (hk : k < n) : (I k).size ≤ 1048576 := by
  have h1 := sumW_mono (I := I) (show k + 1 ≤ n by omega)
  have h2 : sumW I (k + 1) = sumW I k + (I k).size := rfl
  unfold szW at h; omega
/-- The first error of workers and something about numbers. -/
def staffC (v fine : Bool) : Int := if v = true then (if fine = true then 0 else 2) else 1
end Go.Proofs.Ytejhngkbkcalaaa
/-
  Plain: a numeral read back (for the readers).
-/
namespace Go.Proofs.Ytejhngkbkcalaaa
open Go.Lib (itoa decDigits decFrom digitVal)
set_option linter.unusedVariables false

theorem from_snoc (b : UInt8) : ∀ (l : List UInt8) (acc : Nat), decFrom acc (l ++ [b]) = (decFrom acc l).bind fun n => (digitVal b).map fun d => n * 10 + d
  | [], acc => by
    show (match digitVal b with | some d => decFrom (acc * 10 + d) [] | none => none) = (digitVal b).map fun d => acc * 10 + d
    cases digitVal b <;> rfl
  | a :: l, acc => by
    show (match digitVal a with | some d => decFrom (acc * 10 + d) (l ++ [b]) | none => none) = (match digitVal a with | some d => decFrom (acc * 10 + d) l | none => none).bind _
    cases digitVal a with
    | none => rfl
    | some d => exact from_snoc b l _
theorem digit_of {i : Nat} (h : i < 10) : digitVal (UInt8.ofNat (48 + i)) = some i := by
  unfold digitVal
  rw [show (UInt8.ofNat (48 + i)).toNat = 48 + i by simp; omega, if_pos (by omega)]
  congr 1; omega
theorem of_digit {b : UInt8} {d : Nat} (h : digitVal b = some d) : d < 10 ∧ b = UInt8.ofNat (48 + d) := by
  unfold digitVal at h
  split at h
  · rename_i hb
    obtain rfl := Option.some.inj h
    refine ⟨by omega, ?_⟩
    rw [show 48 + (b.toNat - 48) = b.toNat by omega]; simp
  · cases h
theorem from_dec (u : Nat) : decFrom 0 (decDigits u) = some u := by
  induction u using Nat.strongRecOn with
  | _ u ih =>
    rw [decDigits]
    split
    · rename_i h
      show (match digitVal (UInt8.ofNat (48 + u)) with | some d => decFrom (0 * 10 + d) [] | none => none) = some u
      rw [digit_of h]; simp [decFrom]
    · rename_i h
      rw [from_snoc, ih (u / 10) (by omega), digit_of (Nat.mod_lt _ (by omega))]
      simp only [Option.bind_some, Option.map_some]
      congr 1; omega
theorem dec_ne (u : Nat) : decDigits u ≠ [] := by
  rw [decDigits]; split <;> simp
theorem dec_of_from : ∀ (k : Nat) (l : List UInt8) (u : Nat), l.length = k → decFrom 0 l = some u → l ≠ [] → (l.head? = some 48 → l.length = 1) → l = decDigits u
  | 0, l, u, hk, _, hne, _ => absurd (List.length_eq_zero_iff.1 hk) hne
  | k + 1, l, u, hk, h, hne, hz => by
    obtain ⟨l', b, rfl⟩ : ∃ l' b, l = l' ++ [b] := ⟨l.dropLast, l.getLast hne, (List.dropLast_concat_getLast hne).symm⟩
    rw [from_snoc] at h
    cases hn : decFrom 0 l' with
    | none => rw [hn] at h; cases h
    | some n =>
      rw [hn] at h
      simp only [Option.bind_some] at h
      cases hd : digitVal b with
      | none => rw [hd] at h; cases h
      | some d =>
        rw [hd] at h
        obtain rfl := Option.some.inj h
        obtain ⟨hd10, rfl⟩ := of_digit hd
        show _ = decDigits (n * 10 + d)
        by_cases he : l' = []
        · subst he
          have : n = 0 := by simpa [decFrom] using hn.symm
          subst this
          rw [decDigits, dif_pos (by simp only [Option.map_some] at *; omega)]
          simp
        · have hl1 : 0 < l'.length := List.length_pos_iff.2 he
          have hh : (l' ++ [UInt8.ofNat (48 + d)]).head? = l'.head? := by cases l' with | nil => exact absurd rfl he | cons a t => rfl
          rw [hh] at hz
          have hz' : l'.head? ≠ some 48 := fun h48 => by
            have := hz h48
            rw [List.length_append, List.length_singleton] at this
            omega
          have ih := dec_of_from k l' n (by rw [List.length_append] at hk; simpa using hk) hn he (fun h => absurd h hz')
          have hn1 : n ≠ 0 := by
            rintro rfl
            rw [ih] at hz'
            exact hz' (by rw [decDigits, dif_pos (by omega)]; rfl)
          rw [decDigits, dif_neg (by omega)]
          rw [show (n * 10 + d) / 10 = n by omega, show (n * 10 + d) % 10 = d by omega, ← ih]
theorem dec_head {u : Nat} (h : (decDigits u).head? = some 48) : (decDigits u).length = 1 := by
  induction u using Nat.strongRecOn with
  | _ u ih =>
    rw [decDigits] at h ⊢
    split
    · rfl
    · rename_i hu
      rw [dif_neg hu] at h
      have hh : (decDigits (u / 10) ++ [UInt8.ofNat (48 + u % 10)]).head? = (decDigits (u / 10)).head? := by
        have := dec_ne (u / 10)
        cases hc : decDigits (u / 10) with
        | nil => exact absurd hc this
        | cons a t => rfl
      rw [hh] at h
      have h1 := ih (u / 10) (by omega) h
      obtain ⟨a, ha⟩ := List.length_eq_one_iff.1 h1
      rw [ha] at h
      obtain rfl : a = 48 := by simpa using h
      have hf := from_dec (u / 10)
      rw [ha] at hf
      have : (0 : Nat) = u / 10 := by simpa [decFrom, digitVal] using hf
      omega

end Go.Proofs.Ytejhngkbkcalaaa
/-
  Plain definitions: safe speeds and least forces of brakes. No program in sight.
-/
namespace Go.Proofs.Ytejhngkbkcalaaa
open Go.RowKit
set_option linter.unusedVariables false
set_option linter.unusedSimpArgs false

theorem fst_false {q : Nat → Bool} {j : Nat} : ∀ {n : Nat}, j < fst q n → q j = false := by
  intro n
  induction n with
  | zero => intro h; exact absurd h (by unfold fst; omega)
  | succ n ih =>
    intro h
    have hl := fst_le q n
    by_cases h1 : fst q n < n
    · have e : fst q (n + 1) = fst q n := by show (if fst q n < n then _ else _) = _; rw [if_pos h1]
      rw [e] at h; exact ih h
    · have e0 : fst q n = n := by omega
      by_cases h2 : j < n
      · exact ih (by omega)
      · cases hq : q n
        · have e : fst q (n + 1) = n + 1 := fst_miss e0 hq
          have : j = n := by omega
          rw [this]; exact hq
        · have e : fst q (n + 1) = n := fst_hit e0 hq (by omega)
          omega
theorem fst_true {q : Nat → Bool} : ∀ {n : Nat}, fst q n < n → q (fst q n) = true := by
  intro n
  induction n with
  | zero => intro h; omega
  | succ n ih =>
    intro h
    have hl := fst_le q n
    by_cases h1 : fst q n < n
    · have e : fst q (n + 1) = fst q n := by show (if fst q n < n then _ else _) = _; rw [if_pos h1]
      rw [e]; exact ih h1
    · have e0 : fst q n = n := by omega
      cases hq : q n
      · have e : fst q (n + 1) = n + 1 := fst_miss e0 hq
        omega
      · have e : fst q (n + 1) = n := fst_hit e0 hq (by omega)
        rw [e]; exact hq

/-- Whether a car stops within a way. -/
def withinV (d f s way g : Int) (down : Bool) : Bool := decide (0 < forceV f g down) && decide (wayV d (forceV f g down) s ≤ way)
def askWay (d f way g : Int) : Int := if validBrake d f = true then (if (inB way 0 3000000 && inB g 0 900) = true then 0 else 2) else 1
def safeCode (d f way g : Int) (down : Bool) : Int := if askWay d f way g = 0 then (if forceV f g down ≤ 0 then 3 else 0) else askWay d f way g
/-- The least speed that is not safe. -/
def unsafeV (d f way g : Int) (down : Bool) : Nat := fst (fun j => !withinV d f j way g down) 15001
def safeV (d f way g : Int) (down : Bool) : Int := if safeCode d f way g down = 0 then (unsafeV d f way g down : Int) - 1 else 0

theorem force_mono {f f' g : Int} {down : Bool} (h : f ≤ f') : forceV f g down ≤ forceV f' g down := by
  unfold forceV; split <;> omega
theorem within_speed {d f s s' way g : Int} {down : Bool} (hd : 0 ≤ d) (h0 : 0 ≤ s) (h : s ≤ s') (hw : withinV d f s' way g down = true) : withinV d f s way g down = true := by
  unfold withinV at *
  rw [Bool.and_eq_true, decide_eq_true_eq, decide_eq_true_eq] at *
  refine ⟨hw.1, Int.le_trans ?_ hw.2⟩
  unfold wayV
  have a := upV_mono (a := s * d) (a' := s' * d) (b := 10) (Int.mul_le_mul_of_nonneg_right h hd) (by omega)
  have b := upV_mono (a := s * s) (a' := s' * s') (b := 2 * forceV f g down) (Int.mul_le_mul h h h0 (by omega)) (by omega)
  omega
theorem within_force {d f f' s way g : Int} {down : Bool} (h0 : 0 ≤ s) (h : f ≤ f') (hw : withinV d f s way g down = true) : withinV d f' s way g down = true := by
  have hm := force_mono (g := g) (down := down) h
  unfold withinV at *
  rw [Bool.and_eq_true, decide_eq_true_eq, decide_eq_true_eq] at *
  refine ⟨by omega, Int.le_trans ?_ hw.2⟩
  unfold wayV
  have b := upV_anti (a := s * s) (b := 2 * forceV f g down) (b' := 2 * forceV f' g down) (Int.mul_nonneg h0 h0) (by omega) (by omega)
  omega
theorem within_zero {d f way g : Int} {down : Bool} (h : 0 < forceV f g down) (hw : 0 ≤ way) : withinV d f 0 way g down = true := by
  unfold withinV
  rw [Bool.and_eq_true, decide_eq_true_eq, decide_eq_true_eq]
  refine ⟨h, ?_⟩
  unfold wayV upV
  rw [Int.zero_mul, Int.zero_mul]
  have e1 : (0 + 10 - 1 : Int) / 10 = 0 := by decide
  have e2 : (0 + 2 * forceV f g down - 1) / (2 * forceV f g down) = 0 := Int.ediv_eq_zero_of_lt (by omega) (by omega)
  rw [e1, e2]; omega
theorem unsafe_le (d f way g : Int) (down : Bool) : unsafeV d f way g down ≤ 15001 := fst_le _ _
theorem unsafe_pos {d f way g : Int} {down : Bool} (h : 0 < forceV f g down) (hw : 0 ≤ way) : 0 < unsafeV d f way g down := by
  refine Nat.pos_of_ne_zero fun e => ?_
  have ht := fst_true (q := fun j : Nat => !withinV d f j way g down) (n := 15001) (by unfold unsafeV at e; omega)
  unfold unsafeV at e
  rw [e] at ht
  have hz := within_zero (d := d) h hw
  simp at ht
  rw [ht] at hz; exact absurd hz (by decide)
theorem unsafe_lt {d f way g : Int} {down : Bool} {m : Int} (h0 : 0 ≤ m) (h : m < unsafeV d f way g down) : withinV d f m way g down = true := by
  have := fst_false (q := fun j : Nat => !withinV d f j way g down) (j := m.toNat) (n := 15001) (by unfold unsafeV at h; omega)
  simp at this
  rwa [show max m 0 = m by omega] at this
theorem unsafe_ge {d f way g : Int} {down : Bool} {m : Int} (hd : 0 ≤ d) (h : unsafeV d f way g down ≤ m) (hm : m ≤ 15000) : withinV d f m way g down = false := by
  have ht := fst_true (q := fun j : Nat => !withinV d f j way g down) (n := 15001) (by unfold unsafeV at h; omega)
  simp at ht
  cases hw : withinV d f m way g down
  · rfl
  · have := within_speed (s := (fst (fun j : Nat => !withinV d f j way g down) 15001 : Int)) hd (by omega) (by unfold unsafeV at h; omega) hw
    rw [ht] at this; exact absurd this (by decide)

def askLeast (d f s way g : Int) : Int := if validBrake d f = true then (if (inB s 0 15000 && inB way 0 3000000 && inB g 0 900) = true then 0 else 2) else 1
/-- One less than the least force. -/
def leastN (d s way g : Int) (down : Bool) : Nat := fst (fun j => withinV d (j + 1) s way g down) 10000
def leastCode (d f s way g : Int) (down : Bool) : Int := if askLeast d f s way g = 0 then (if leastN d s way g down < 10000 then 0 else 3) else askLeast d f s way g
def leastV (d f s way g : Int) (down : Bool) : Int := if leastCode d f s way g down = 0 then (leastN d s way g down : Int) + 1 else 0
theorem least_le (d s way g : Int) (down : Bool) : leastN d s way g down ≤ 10000 := fst_le _ _
theorem least_lt {d s way g : Int} {down : Bool} {m : Int} (h0 : 1 ≤ m) (h : m ≤ leastN d s way g down) : withinV d m s way g down = false := by
  have := fst_false (q := fun j : Nat => withinV d (j + 1) s way g down) (j := (m - 1).toNat) (n := 10000) (by unfold leastN at h; omega)
  rwa [Int.toNat_of_nonneg (by omega), show m - 1 + 1 = m by omega] at this
theorem least_ge {d s way g : Int} {down : Bool} {m : Int} (hs : 0 ≤ s) (h : leastN d s way g down < m) (hm : m ≤ 10000) : withinV d m s way g down = true := by
  have ht := fst_true (q := fun j : Nat => withinV d (j + 1) s way g down) (n := 10000) (by unfold leastN at h; omega)
  exact within_force (f := ((fst (fun j : Nat => withinV d (j + 1) s way g down) 10000 : Nat) : Int) + 1) hs (by unfold leastN at h; omega) ht
attribute [irreducible] unsafeV leastN
end Go.Proofs.Ytejhngkbkcalaaa
