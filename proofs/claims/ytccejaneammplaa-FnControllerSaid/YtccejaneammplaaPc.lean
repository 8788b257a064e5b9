/-
  Plain definitions: the controller as a step machine. No program in sight.
-/
import Derived.Test.YtccejaneammplaaPl
namespace Go.Proofs.Ytccejaneammplaa
open Go.RowKit
set_option linter.unusedVariables false
set_option linter.unusedSimpArgs false

/-- A state of the controller. -/
structure St where
  m : Int
  o : Bool
  a : Bool
  b : Bool
  e : Bool
deriving DecidableEq

def St.val (x : St) : Value := .agg #[.int .i64 x.m, .bool x.o, .bool x.a, .bool x.b, .bool x.e]
def St.ok (x : St) : Bool := inB x.m 0 4
def St.zero : St := ⟨0, false, false, false, false⟩

def allowed (x : St) (ev : Int) : Bool :=
  if ev = 1 then (x.m == 0) && x.e && !x.o
  else if ev = 2 then x.o
  else if ev = 3 then (x.m == 0) && !x.o && !x.a
  else if ev = 4 then (x.m == 0) && !x.o && !x.b
  else if ev = 5 then x.m == 1
  else if ev = 6 then x.m == 2
  else if ev = 7 then x.m == 3
  else if ev = 8 then x.m != 4
  else (x.m == 4) && !x.o
def settle (x : St) : St := if ((x.m == 0) && x.a && x.b) = true then { x with m := 1 } else x
def after (x : St) (ev : Int) : St :=
  settle (if ev = 1 then { x with o := true }
  else if ev = 2 then { x with o := false }
  else if ev = 3 then { x with a := true }
  else if ev = 4 then { x with b := true }
  else if ev = 5 then { x with m := 2, e := false, a := false, b := false }
  else if ev = 6 then { x with m := 3 }
  else if ev = 7 then { x with m := 0, e := true }
  else if ev = 8 then { x with m := 4, a := false, b := false }
  else { x with m := if x.e = true then 0 else 3 })
def step (x : St) (ev : Int) : St := if allowed x ev = true then after x ev else x
theorem settle_ok {x : St} (h : x.ok = true) : (settle x).ok = true := by
  unfold settle; split
  · rfl
  · exact h
theorem after_ok {x : St} {ev : Int} (h : x.ok = true) : (after x ev).ok = true := by
  unfold after
  apply settle_ok
  repeat' split
  all_goals first | exact h | rfl
  all_goals (unfold St.ok; simp only; split <;> rfl)
def nextCode (x : St) (ev : Int) : Int := if x.ok = true then (if inB ev 1 9 = true then (if allowed x ev = true then 0 else 6) else 2) else 1
def nextV (x : St) (ev : Int) : St := if nextCode x ev = 0 then after x ev else St.zero
theorem next_1 {x : St} {ev : Int} (h : x.ok = false) : nextCode x ev = 1 ∧ nextV x ev = St.zero := by
  have : nextCode x ev = 1 := by simp [nextCode, h]
  exact ⟨this, by simp [nextV, this]⟩
theorem next_2 {x : St} {ev : Int} (h : x.ok = true) (h2 : inB ev 1 9 = false) : nextCode x ev = 2 ∧ nextV x ev = St.zero := by
  have : nextCode x ev = 2 := by simp [nextCode, h, h2]
  exact ⟨this, by simp [nextV, this]⟩
theorem next_6 {x : St} {ev : Int} (h : x.ok = true) (h2 : inB ev 1 9 = true) (h3 : allowed x ev = false) : nextCode x ev = 6 ∧ nextV x ev = St.zero := by
  have : nextCode x ev = 6 := by simp [nextCode, h, h2, h3]
  exact ⟨this, by simp [nextV, this]⟩
theorem next_0 {x : St} {ev : Int} (h : x.ok = true) (h2 : inB ev 1 9 = true) (h3 : allowed x ev = true) : nextCode x ev = 0 ∧ nextV x ev = after x ev := by
  have : nextCode x ev = 0 := by simp [nextCode, h, h2, h3]
  exact ⟨this, by simp [nextV, this]⟩
theorem step_0 {x : St} {ev : Int} (h3 : allowed x ev = true) : step x ev = after x ev := by simp [step, h3]
end Go.Proofs.Ytccejaneammplaa
