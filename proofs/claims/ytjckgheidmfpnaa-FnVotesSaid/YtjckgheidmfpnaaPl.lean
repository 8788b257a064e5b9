/-
  Plain definitions: what the functions of the program compute, and facts about them. No program in sight.
-/
import Derived.WalkKit
import Derived.Below
namespace Go.Proofs.Ytjckgheidmfpnaa
open Go.RowKit

def inB (n a b : Int) : Bool := decide (a ≤ n) && decide (n ≤ b)
theorem inB_true {n a b : Int} : inB n a b = true ↔ a ≤ n ∧ n ≤ b := by simp [inB]
theorem inB_false {n a b : Int} : inB n a b = false ↔ ¬ (a ≤ n ∧ n ≤ b) := by rw [← inB_true]; simp
theorem bcell {W w1 : World} (hb : Below W.heap.size W w1) : (∀ b o, b < W.heap.size → w1.cell? ⟨b, o, none⟩ = W.cell? ⟨b, o, none⟩) ∧ (∀ b o, b < W.heap.size → w1.frozen? ⟨b, o, none⟩ = W.frozen? ⟨b, o, none⟩) :=
  ⟨fun b o h => hb.cell (p := ⟨b, o, none⟩) h, fun b o h => hb.frozen (p := ⟨b, o, none⟩) h⟩

/-! brakes -/
def validBrake (d f : Int) : Bool := inB d 0 100 && inB f 1 10000

/-! doors -/
def doorName (p : Int) : ByteArray := if p = 0 then ⟨#[115, 104, 117, 116]⟩ else if p = 1 then ⟨#[111, 112, 101, 110, 105, 110, 103]⟩ else if p = 2 then ⟨#[111, 112, 101, 110]⟩ else if p = 3 then ⟨#[115, 104, 117, 116, 116, 105, 110, 103]⟩ else ⟨#[]⟩
theorem doorName_out {p : Int} (h : ¬ (0 ≤ p ∧ p ≤ 3)) : doorName p = ⟨#[]⟩ := by unfold doorName; repeat rw [if_neg (by omega)]
def moves (p : Int) : Bool := (p == 1) || (p == 3)
def validDoor (p k r : Int) : Bool := inB p 0 3 && (if moves p = true then inB k 0 2 && inB r 0 3 else (k == 0) && (r == 0))

/-! controller -/
def modeName (p : Int) : ByteArray := if p = 0 then ⟨#[115, 116, 111, 112]⟩ else if p = 1 then ⟨#[114, 101, 97, 100, 121]⟩ else if p = 2 then ⟨#[114, 117, 110]⟩ else if p = 3 then ⟨#[99, 114, 101, 101, 112]⟩ else if p = 4 then ⟨#[102, 97, 117, 108, 116]⟩ else ⟨#[]⟩
theorem modeName_out {p : Int} (h : ¬ (0 ≤ p ∧ p ≤ 4)) : modeName p = ⟨#[]⟩ := by unfold modeName; repeat rw [if_neg (by omega)]
def eventName (p : Int) : ByteArray := if p = 1 then ⟨#[111, 112, 101, 110]⟩ else if p = 2 then ⟨#[99, 108, 111, 115, 101]⟩ else if p = 3 then ⟨#[114, 101, 97, 100, 121, 45, 97]⟩ else if p = 4 then ⟨#[114, 101, 97, 100, 121, 45, 98]⟩ else if p = 5 then ⟨#[115, 116, 97, 114, 116]⟩ else if p = 6 then ⟨#[110, 101, 97, 114]⟩ else if p = 7 then ⟨#[97, 114, 114, 105, 118, 101]⟩ else if p = 8 then ⟨#[102, 97, 117, 108, 116]⟩ else if p = 9 then ⟨#[114, 101, 115, 101, 116]⟩ else ⟨#[]⟩
theorem eventName_out {p : Int} (h : ¬ (1 ≤ p ∧ p ≤ 9)) : eventName p = ⟨#[]⟩ := by unfold eventName; repeat rw [if_neg (by omega)]
def isSafe (m : Int) (o e : Bool) : Bool := (decide (m ≠ 2) && decide (m ≠ 3)) || (!o && !e)
def sgn (b : Bool) (c : ByteArray) : ByteArray := if b = true then c else ⟨#[45]⟩
def stateText (m : Int) (o a b e : Bool) : ByteArray := modeName m ++ ⟨#[32]⟩ ++ sgn o ⟨#[111]⟩ ++ sgn a ⟨#[97]⟩ ++ sgn b ⟨#[98]⟩ ++ sgn e ⟨#[101]⟩
theorem modeName_size (p : Int) : (modeName p).size ≤ 5 := by
  unfold modeName; repeat' split
  all_goals decide
theorem sgn_size (b : Bool) {c : ByteArray} (h : c.size = 1) : (sgn b c).size = 1 := by
  unfold sgn; split
  · exact h
  · decide
theorem sz1 (x : UInt8) : (⟨#[x]⟩ : ByteArray).size = 1 := rfl
theorem stateText_adds {P : Program} (m : Int) (o a b e : Bool) :
    (∀ w, (Op.stringOp .add (modeName m) ⟨#[32]⟩).run P w = .ok (.string (modeName m ++ ⟨#[32]⟩)) w) ∧
    (∀ w, (Op.stringOp .add (modeName m ++ ⟨#[32]⟩) (sgn o ⟨#[111]⟩)).run P w = .ok (.string (modeName m ++ ⟨#[32]⟩ ++ sgn o ⟨#[111]⟩)) w) ∧
    (∀ w, (Op.stringOp .add (modeName m ++ ⟨#[32]⟩ ++ sgn o ⟨#[111]⟩) (sgn a ⟨#[97]⟩)).run P w = .ok (.string (modeName m ++ ⟨#[32]⟩ ++ sgn o ⟨#[111]⟩ ++ sgn a ⟨#[97]⟩)) w) ∧
    (∀ w, (Op.stringOp .add (modeName m ++ ⟨#[32]⟩ ++ sgn o ⟨#[111]⟩ ++ sgn a ⟨#[97]⟩) (sgn b ⟨#[98]⟩)).run P w = .ok (.string (modeName m ++ ⟨#[32]⟩ ++ sgn o ⟨#[111]⟩ ++ sgn a ⟨#[97]⟩ ++ sgn b ⟨#[98]⟩)) w) ∧
    (∀ w, (Op.stringOp .add (modeName m ++ ⟨#[32]⟩ ++ sgn o ⟨#[111]⟩ ++ sgn a ⟨#[97]⟩ ++ sgn b ⟨#[98]⟩) (sgn e ⟨#[101]⟩)).run P w = .ok (.string (modeName m ++ ⟨#[32]⟩ ++ sgn o ⟨#[111]⟩ ++ sgn a ⟨#[97]⟩ ++ sgn b ⟨#[98]⟩ ++ sgn e ⟨#[101]⟩)) w) := by
  have h1 := modeName_size m
  have h2 := sgn_size o (sz1 111)
  have h3 := sgn_size a (sz1 97)
  have h4 := sgn_size b (sz1 98)
  have h5 := sgn_size e (sz1 101)
  refine ⟨?_, ?_, ?_, ?_, ?_⟩ <;> intro w <;> refine run_string_add_sum w _ _ ?_ <;> simp only [ByteArray.size_append, sz1] <;> omega
end Go.Proofs.Ytjckgheidmfpnaa
