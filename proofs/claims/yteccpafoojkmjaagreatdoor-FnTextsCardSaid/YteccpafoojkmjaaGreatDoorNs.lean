/-
  Plain: what the reader of states finds. No program in sight.
-/
import Derived.Test.YteccpafoojkmjaaGreatDoorNc
import Derived.Test.YteccpafoojkmjaaGreatDoorM1
namespace Go.Proofs.YteccpafoojkmjaaGreatDoor
open Go.RowKit
set_option linter.unusedVariables false
set_option linter.unusedSimpArgs false

def sig4 (o a b e : Bool) : ByteArray := ⟨#[if o then 111 else 45, if a then 97 else 45, if b then 98 else 45, if e then 101 else 45]⟩
theorem stateText_eq (m : Int) (o a b e : Bool) : stateText m o a b e = modeName m ++ ⟨#[32]⟩ ++ sig4 o a b e := by
  unfold stateText
  apply data_inj
  simp only [app_list]
  cases o <;> cases a <;> cases b <;> cases e <;> simp [sgn, sig4]
theorem modeName_cases {p : Int} (h : inB p 0 4 = true) : (p = 0 ∧ modeName p = ⟨#[115, 116, 111, 112]⟩) ∨ (p = 1 ∧ modeName p = ⟨#[114, 101, 97, 100, 121]⟩) ∨ (p = 2 ∧ modeName p = ⟨#[114, 117, 110]⟩) ∨ (p = 3 ∧ modeName p = ⟨#[99, 114, 101, 101, 112]⟩) ∨ (p = 4 ∧ modeName p = ⟨#[102, 97, 117, 108, 116]⟩) := by
  obtain ⟨h0, h1⟩ := inB_true.1 h
  have : p = 0 ∨ p = 1 ∨ p = 2 ∨ p = 3 ∨ p = 4 := by omega
  rcases this with rfl | rfl | rfl | rfl | rfl
  · exact .inl ⟨rfl, rfl⟩
  · exact .inr (.inl ⟨rfl, rfl⟩)
  · exact .inr (.inr (.inl ⟨rfl, rfl⟩))
  · exact .inr (.inr (.inr (.inl ⟨rfl, rfl⟩)))
  · exact .inr (.inr (.inr (.inr ⟨rfl, rfl⟩)))
theorem modeName_free {p : Int} (h : inB p 0 4 = true) : (32 : UInt8) ∉ (modeName p).data.toList := by
  rcases modeName_cases h with ⟨_, e⟩ | ⟨_, e⟩ | ⟨_, e⟩ | ⟨_, e⟩ | ⟨_, e⟩ <;> rw [e] <;> decide
theorem modeName_inj {p q : Int} (h : inB p 0 4 = true) (g : inB q 0 4 = true) (he : modeName p = modeName q) : p = q := by
  have hl := congrArg (fun x : ByteArray => x.data.toList) he
  rcases modeName_cases h with ⟨e, e'⟩ | ⟨e, e'⟩ | ⟨e, e'⟩ | ⟨e, e'⟩ | ⟨e, e'⟩ <;> rcases modeName_cases g with ⟨f, f'⟩ | ⟨f, f'⟩ | ⟨f, f'⟩ | ⟨f, f'⟩ | ⟨f, f'⟩ <;> rw [e', f'] at hl <;> first | (rw [e, f]; done) | exact absurd hl (by decide)
theorem state_cut {m : Int} {o a b e : Bool} (h : inB m 0 4 = true) : cutA (stateText m o a b e) 32 = modeName m ∧ cutB (stateText m o a b e) 32 = sig4 o a b e := by
  rw [stateText_eq]
  exact cut_two (c := 32) (modeName_free h)
def bt (S : ByteArray) (j : Nat) (c : Int) : Bool := ((S.get! j).toNat : Int) == c
theorem sig4_bits (o a b e : Bool) : bt (sig4 o a b e) 0 111 = o ∧ bt (sig4 o a b e) 1 97 = a ∧ bt (sig4 o a b e) 2 98 = b ∧ bt (sig4 o a b e) 3 101 = e ∧ (sig4 o a b e).size = 4 := by
  cases o <;> cases a <;> cases b <;> cases e <;> decide
/-- The mode whose name is x, among the first P; -1 if there is none. -/
def smode (x : ByteArray) : Nat → Int
  | 0 => -1
  | P + 1 => if modeName P = x then P else smode x P
theorem smode_bd (x : ByteArray) : ∀ P, -1 ≤ smode x P ∧ smode x P < P ∧ (0 ≤ smode x P → modeName (smode x P) = x)
  | 0 => by simp [smode]
  | P + 1 => by
    obtain ⟨a, b, c⟩ := smode_bd x P
    unfold smode
    split
    · rename_i h; exact ⟨by omega, by omega, fun _ => h⟩
    · exact ⟨a, by omega, c⟩
theorem smode_of {x : ByteArray} {p : Int} (h : inB p 0 4 = true) (he : modeName p = x) : ∀ P : Nat, p < (P : Int) → P ≤ 5 → smode x P = p
  | 0, hP, _ => by have := inB_true.1 h; omega
  | P + 1, hP, h4 => by
    have hb := inB_true.1 h
    unfold smode
    by_cases e : modeName P = x
    · rw [if_pos e]; exact modeName_inj (inB_true.2 (by omega)) h (e.trans he.symm)
    · rw [if_neg e]
      have : p ≠ P := fun e2 => e (by rw [← e2]; exact he)
      exact smode_of h he P (by omega) (by omega)
def StateIs (s : ByteArray) (m : Int) (o a b e ok : Bool) : Prop := (ok = true ∧ inB m 0 4 = true ∧ stateText m o a b e = s) ∨ (ok = false ∧ m = 0 ∧ o = false ∧ a = false ∧ b = false ∧ e = false ∧ ∀ m o a b e, inB m 0 4 = true → stateText m o a b e ≠ s)
theorem state_some (s : ByteArray) : ∃ m o a b e ok, StateIs s m o a b e ok := by
  by_cases h : ∃ m o a b e, inB m 0 4 = true ∧ stateText m o a b e = s
  · obtain ⟨m, o, a, b, e, h1, h2⟩ := h
    exact ⟨m, o, a, b, e, true, .inl ⟨rfl, h1, h2⟩⟩
  · exact ⟨0, false, false, false, false, false, .inr ⟨rfl, rfl, rfl, rfl, rfl, rfl, fun m o a b e h1 h2 => h ⟨m, o, a, b, e, h1, h2⟩⟩⟩
theorem state_hit {s : ByteArray} {m m' : Int} {o a b e ok o' a' b' e' : Bool} (hs : StateIs s m o a b e ok) (h : inB m' 0 4 = true) (ht : stateText m' o' a' b' e' = s) : ok = true ∧ m = m' ∧ o = o' ∧ a = a' ∧ b = b' ∧ e = e' := by
  rcases hs with ⟨rfl, g1, g2⟩ | ⟨rfl, _, _, _, _, _, g⟩
  · have c1 := state_cut (o := o) (a := a) (b := b) (e := e) g1
    have c2 := state_cut (o := o') (a := a') (b := b') (e := e') h
    rw [g2] at c1
    rw [ht] at c2
    have s1 := sig4_bits o a b e
    have s2 := sig4_bits o' a' b' e'
    have hm := modeName_inj g1 h (c1.1.symm.trans c2.1)
    rw [← c1.2] at s1
    rw [← c2.2] at s2
    exact ⟨rfl, hm, s1.1.symm.trans s2.1, s1.2.1.symm.trans s2.2.1, s1.2.2.1.symm.trans s2.2.2.1, s1.2.2.2.1.symm.trans s2.2.2.2.1⟩
  · exact absurd ht (g _ _ _ _ _ h)
theorem state_none {s : ByteArray} {m : Int} {o a b e ok : Bool} (hs : StateIs s m o a b e ok) (h : ∀ m o a b e, inB m 0 4 = true → stateText m o a b e ≠ s) : ok = false ∧ m = 0 ∧ o = false ∧ a = false ∧ b = false ∧ e = false := by
  rcases hs with ⟨rfl, g1, g2⟩ | ⟨rfl, a, b, c, d, e, g⟩
  · exact absurd g2 (h _ _ _ _ _ g1)
  · exact ⟨rfl, a, b, c, d, e⟩
/-- What the program compares with the text. -/
def stGuess (s : ByteArray) : ByteArray := stateText (smode (cutA s 32) 5) (bt (cutB s 32) 0 111) (bt (cutB s 32) 1 97) (bt (cutB s 32) 2 98) (bt (cutB s 32) 3 101)
theorem state_guess {m : Int} {o a b e : Bool} (h : inB m 0 4 = true) : smode (cutA (stateText m o a b e) 32) 5 = m ∧ (cutB (stateText m o a b e) 32).size = 4 ∧ stGuess (stateText m o a b e) = stateText m o a b e := by
  obtain ⟨c1, c2⟩ := state_cut (o := o) (a := a) (b := b) (e := e) h
  have hb := inB_true.1 h
  have e1 : smode (modeName m) 5 = m := smode_of h rfl 5 (by omega) (by omega)
  obtain ⟨b0, b1, b2, b3, b4⟩ := sig4_bits o a b e
  refine ⟨by rw [c1, e1], by rw [c2, b4], ?_⟩
  unfold stGuess
  rw [c1, c2, e1, b0, b1, b2, b3]
theorem state_no {s : ByteArray} {m : Int} {o a b e ok : Bool} (hs : StateIs s m o a b e ok) (h : (cutB s 32).size ≠ 4 ∨ inB (smode (cutA s 32) 5) 0 4 = false ∨ stGuess s ≠ s) : ok = false ∧ m = 0 ∧ o = false ∧ a = false ∧ b = false ∧ e = false := by
  refine state_none hs fun m o a b e hm ht => ?_
  obtain ⟨g1, g2, g3⟩ := state_guess (o := o) (a := a) (b := b) (e := e) hm
  rw [ht] at g1 g2 g3
  rcases h with h | h | h
  · exact h g2
  · rw [g1, hm] at h; cases h
  · exact h g3
/-- The number of the signs, in the reference's order. -/
def sgc (o a b e : Bool) : Int := (if o then 1 else 0) + (if a then 2 else 0) + (if b then 4 else 0) + (if e then 8 else 0)
theorem sgc_bd (o a b e : Bool) : 0 ≤ sgc o a b e ∧ sgc o a b e < 16 := by cases o <;> cases a <;> cases b <;> cases e <;> decide
theorem sgc_inj {o a b e o' a' b' e' : Bool} (h : sgc o a b e = sgc o' a' b' e') : o = o' ∧ a = a' ∧ b = b' ∧ e = e' := by
  revert h; cases o <;> cases a <;> cases b <;> cases e <;> cases o' <;> cases a' <;> cases b' <;> cases e' <;> decide
def SeenT (s : ByteArray) (P K : Int) : Prop := ∀ m o a b e, inB m 0 4 = true → (m < P ∨ (m = P ∧ sgc o a b e < K)) → stateText m o a b e ≠ s
theorem SeenT.start (s : ByteArray) : SeenT s 0 0 := fun m o a b e hm h => by
  have := inB_true.1 hm
  have := sgc_bd o a b e
  omega
theorem SeenT.next {s : ByteArray} {P K : Int} {o a b e : Bool} (h : SeenT s P K) (hk : sgc o a b e = K) (hn : stateText P o a b e ≠ s) : SeenT s P (K + 1) := fun m o' a' b' e' hm hb => by
  by_cases h1 : m < P ∨ (m = P ∧ sgc o' a' b' e' < K)
  · exact h m o' a' b' e' hm h1
  · obtain ⟨rfl, h2⟩ : m = P ∧ sgc o' a' b' e' = K := by omega
    obtain ⟨rfl, rfl, rfl, rfl⟩ := sgc_inj (h2.trans hk.symm)
    exact hn
theorem SeenT.row {s : ByteArray} {P : Int} (h : SeenT s P 16) : SeenT s (P + 1) 0 := fun m o a b e hm hb => h m o a b e hm (by have := sgc_bd o a b e; omega)
theorem SeenT.all {s : ByteArray} (h : SeenT s 5 0) : ∀ m o a b e, inB m 0 4 = true → stateText m o a b e ≠ s := fun m o a b e hm => h m o a b e hm (by have := inB_true.1 hm; omega)
theorem sgc_of : ∀ K : Nat, K < 16 → sgc (((K % 2 : Nat) : Int) == 1) (((K / 2 % 2 * 2 : Nat) : Int) == 2) (((K / 4 % 2 * 4 : Nat) : Int) == 4) (((K / 8 % 2 * 8 : Nat) : Int) == 8) = K := by decide
end Go.Proofs.YteccpafoojkmjaaGreatDoor
