/-
  Plain: what the readers of brakes, passings and doors find: the valid value whose text it is. No program in sight.
-/
import Derived.Test.YtejhngkbkcalaaaGreatDoorNw
import Derived.Test.YtejhngkbkcalaaaGreatDoorTb
import Derived.Test.YtejhngkbkcalaaaGreatDoorTp
import Derived.Test.YtejhngkbkcalaaaGreatDoorTd
namespace Go.Proofs.YtejhngkbkcalaaaGreatDoor
open Go.RowKit
open Go.Lib (itoa decDigits)
set_option linter.unusedVariables false
set_option linter.unusedSimpArgs false

theorem tx_pair {i j : Int} {p q : ByteArray} {c : UInt8} (hp : c ∉ p.data.toList) (hc : c.toNat ≠ 45 ∧ ¬ (48 ≤ c.toNat ∧ c.toNat ≤ 57)) (h : p ++ ⟨#[c]⟩ ++ q = dtx i ++ ⟨#[c]⟩ ++ dtx j) : p = dtx i ∧ q = dtx j := by
  have e1 := cut_two (q := q) hp
  have e2 := cut_two (p := dtx i) (q := dtx j) (c := c) (dtx_free i hc)
  rw [h] at e1
  exact ⟨e1.1.symm.trans e2.1, e1.2.symm.trans e2.2⟩
theorem num_18 {z : Int} (h0 : -1000000 ≤ z) (h1 : z ≤ 1000000) : numOk (dtx z) = true ∧ numR (dtx z) = z := num_back (by omega) (by omega)

/-! passings -/
def PassIs (s : ByteArray) (i j : Int) (ok : Bool) : Prop := (ok = true ∧ passingOk i j = true ∧ passingTx i j = s) ∨ (ok = false ∧ i = 0 ∧ j = 0 ∧ ∀ i j, passingOk i j = true → passingTx i j ≠ s)
theorem pass_some (s : ByteArray) : ∃ i j ok, PassIs s i j ok := by
  by_cases h : ∃ i j, passingOk i j = true ∧ passingTx i j = s
  · obtain ⟨i, j, h1, h2⟩ := h
    exact ⟨i, j, true, .inl ⟨rfl, h1, h2⟩⟩
  · exact ⟨0, 0, false, .inr ⟨rfl, rfl, rfl, fun i j h1 h2 => h ⟨i, j, h1, h2⟩⟩⟩
theorem c64 : (64 : UInt8).toNat ≠ 45 ∧ ¬ (48 ≤ (64 : UInt8).toNat ∧ (64 : UInt8).toNat ≤ 57) := by decide
theorem c43 : (43 : UInt8).toNat ≠ 45 ∧ ¬ (48 ≤ (43 : UInt8).toNat ∧ (43 : UInt8).toNat ≤ 57) := by decide
theorem c47 : (47 : UInt8).toNat ≠ 45 ∧ ¬ (48 ≤ (47 : UInt8).toNat ∧ (47 : UInt8).toNat ≤ 57) := by decide
theorem pass_split {i j : Int} : splitL (passingTx i j) 64 = [dtx i, dtx j] := split_two (c := 64) (dtx_free i c64) (dtx_free j c64)
theorem pass_cut {i j : Int} : cutA (passingTx i j) 64 = dtx i ∧ cutB (passingTx i j) 64 = dtx j := cut_two (c := 64) (dtx_free i c64)
/-- What the reference finds. -/
theorem pass_spec {s p q : ByteArray} {i j : Int} {ok : Bool} (hs : PassIs s i j ok) (h : splitL s 64 = [p, q]) (h1 : numOk p = true) (h2 : numOk q = true) (h3 : passingOk (numR p) (numR q) = true) : ok = true ∧ i = numR p ∧ j = numR q := by
  obtain ⟨e, hp, hq⟩ := split_is_two (c := 64) h
  have t1 := num_text h1
  have t2 := num_text h2
  rcases hs with ⟨rfl, g1, g2⟩ | ⟨rfl, _, _, g⟩
  · rw [← g2, pass_split] at h
    obtain ⟨e1, e2⟩ := List.cons.inj h
    obtain ⟨e3, _⟩ := List.cons.inj e2
    have b := passing_bd g1
    exact ⟨rfl, by rw [← e1, (num_18 (by omega) (by omega)).2], by rw [← e3, (num_18 (by omega) (by omega)).2]⟩
  · refine absurd ?_ (g _ _ h3)
    unfold passingTx
    rw [← t1.1, ← t2.1]; exact e.symm
theorem pass_spec_no {s : ByteArray} {i j : Int} {ok : Bool} (hs : PassIs s i j ok) (h : ∀ p q, splitL s 64 = [p, q] → numOk p = true → numOk q = true → passingOk (numR p) (numR q) = true → False) : ok = false ∧ i = 0 ∧ j = 0 := by
  rcases hs with ⟨rfl, g1, g2⟩ | ⟨rfl, rfl, rfl, g⟩
  · exfalso
    have b := passing_bd g1
    have n1 := num_18 (z := i) (by omega) (by omega)
    have n2 := num_18 (z := j) (by omega) (by omega)
    exact h (dtx i) (dtx j) (by rw [← g2, pass_split]) n1.1 n2.1 (by rw [n1.2, n2.2]; exact g1)
  · exact ⟨rfl, rfl, rfl⟩
/-- What the program finds. -/
theorem pass_impl {s : ByteArray} {i j : Int} {ok : Bool} (hs : PassIs s i j ok) (h0 : s ≠ ⟨#[]⟩) (h : passingText (numR (cutA s 64)) (numR (cutB s 64)) = s) : ok = true ∧ i = numR (cutA s 64) ∧ j = numR (cutB s 64) := by
  unfold passingText at h
  cases hv : passingOk (numR (cutA s 64)) (numR (cutB s 64))
  · rw [hv] at h; exact absurd h.symm h0
  · rw [hv, if_pos rfl] at h
    rcases hs with ⟨rfl, g1, g2⟩ | ⟨rfl, _, _, g⟩
    · have b := passing_bd g1
      have hc := pass_cut (i := i) (j := j)
      rw [g2] at hc
      exact ⟨rfl, by rw [hc.1, (num_18 (by omega) (by omega)).2], by rw [hc.2, (num_18 (by omega) (by omega)).2]⟩
    · exact absurd h (g _ _ hv)
theorem pass_impl_no {s : ByteArray} {i j : Int} {ok : Bool} (hs : PassIs s i j ok) (h : s = ⟨#[]⟩ ∨ passingText (numR (cutA s 64)) (numR (cutB s 64)) ≠ s) : ok = false ∧ i = 0 ∧ j = 0 := by
  rcases hs with ⟨rfl, g1, g2⟩ | ⟨rfl, rfl, rfl, g⟩
  · exfalso
    have b := passing_bd g1
    have hc := pass_cut (i := i) (j := j)
    rcases h with h | h
    · rw [h] at g2
      have := congrArg ByteArray.size g2
      unfold passingTx at this
      rw [ByteArray.size_append, ByteArray.size_append] at this
      have e : (⟨#[64]⟩ : ByteArray).size = 1 := rfl
      have e0 : (⟨#[]⟩ : ByteArray).size = 0 := rfl
      omega
    · rw [g2] at hc
      apply h
      rw [hc.1, hc.2, (num_18 (by omega) (by omega)).2, (num_18 (by omega) (by omega)).2]
      unfold passingText
      rw [if_pos g1, g2]
  · exact ⟨rfl, rfl, rfl⟩

/-! brakes -/
def BrakeIs (s : ByteArray) (d f : Int) (ok : Bool) : Prop := (ok = true ∧ validBrake d f = true ∧ brakeTx d f = s) ∨ (ok = false ∧ d = 0 ∧ f = 0 ∧ ∀ d f, validBrake d f = true → brakeTx d f ≠ s)
theorem brake_some (s : ByteArray) : ∃ d f ok, BrakeIs s d f ok := by
  by_cases h : ∃ d f, validBrake d f = true ∧ brakeTx d f = s
  · obtain ⟨i, j, h1, h2⟩ := h
    exact ⟨i, j, true, .inl ⟨rfl, h1, h2⟩⟩
  · exact ⟨0, 0, false, .inr ⟨rfl, rfl, rfl, fun i j h1 h2 => h ⟨i, j, h1, h2⟩⟩⟩
theorem brake_split {i j : Int} : splitL (brakeTx i j) 43 = [dtx i, dtx j] := split_two (c := 43) (dtx_free i c43) (dtx_free j c43)
theorem brake_cut {i j : Int} : cutA (brakeTx i j) 43 = dtx i ∧ cutB (brakeTx i j) 43 = dtx j := cut_two (c := 43) (dtx_free i c43)
theorem brake_spec {s p q : ByteArray} {i j : Int} {ok : Bool} (hs : BrakeIs s i j ok) (h : splitL s 43 = [p, q]) (h1 : numOk p = true) (h2 : numOk q = true) (h3 : validBrake (numR p) (numR q) = true) : ok = true ∧ i = numR p ∧ j = numR q := by
  obtain ⟨e, hp, hq⟩ := split_is_two (c := 43) h
  have t1 := num_text h1
  have t2 := num_text h2
  rcases hs with ⟨rfl, g1, g2⟩ | ⟨rfl, _, _, g⟩
  · rw [← g2, brake_split] at h
    obtain ⟨e1, e2⟩ := List.cons.inj h
    obtain ⟨e3, _⟩ := List.cons.inj e2
    have b := validBrake_bd' g1
    exact ⟨rfl, by rw [← e1, (num_18 (by omega) (by omega)).2], by rw [← e3, (num_18 (by omega) (by omega)).2]⟩
  · refine absurd ?_ (g _ _ h3)
    unfold brakeTx
    rw [← t1.1, ← t2.1]; exact e.symm
theorem brake_spec_no {s : ByteArray} {i j : Int} {ok : Bool} (hs : BrakeIs s i j ok) (h : ∀ p q, splitL s 43 = [p, q] → numOk p = true → numOk q = true → validBrake (numR p) (numR q) = true → False) : ok = false ∧ i = 0 ∧ j = 0 := by
  rcases hs with ⟨rfl, g1, g2⟩ | ⟨rfl, rfl, rfl, g⟩
  · exfalso
    have b := validBrake_bd' g1
    have n1 := num_18 (z := i) (by omega) (by omega)
    have n2 := num_18 (z := j) (by omega) (by omega)
    exact h (dtx i) (dtx j) (by rw [← g2, brake_split]) n1.1 n2.1 (by rw [n1.2, n2.2]; exact g1)
  · exact ⟨rfl, rfl, rfl⟩
theorem brake_impl {s : ByteArray} {i j : Int} {ok : Bool} (hs : BrakeIs s i j ok) (hv : validBrake (numR (cutA s 43)) (numR (cutB s 43)) = true) (h : brakeText (numR (cutA s 43)) (numR (cutB s 43)) = s) : ok = true ∧ i = numR (cutA s 43) ∧ j = numR (cutB s 43) := by
  unfold brakeText at h
  rw [hv, if_pos rfl] at h
  rcases hs with ⟨rfl, g1, g2⟩ | ⟨rfl, _, _, g⟩
  · have b := validBrake_bd' g1
    have hc := brake_cut (i := i) (j := j)
    rw [g2] at hc
    exact ⟨rfl, by rw [hc.1, (num_18 (by omega) (by omega)).2], by rw [hc.2, (num_18 (by omega) (by omega)).2]⟩
  · exact absurd h (g _ _ hv)
theorem brake_impl_no {s : ByteArray} {i j : Int} {ok : Bool} (hs : BrakeIs s i j ok) (h : validBrake (numR (cutA s 43)) (numR (cutB s 43)) = false ∨ brakeText (numR (cutA s 43)) (numR (cutB s 43)) ≠ s) : ok = false ∧ i = 0 ∧ j = 0 := by
  rcases hs with ⟨rfl, g1, g2⟩ | ⟨rfl, rfl, rfl, g⟩
  · exfalso
    have b := validBrake_bd' g1
    have hc := brake_cut (i := i) (j := j)
    rw [g2] at hc
    rw [hc.1, hc.2, (num_18 (by omega) (by omega)).2, (num_18 (by omega) (by omega)).2] at h
    rcases h with h | h
    · rw [g1] at h; cases h
    · apply h
      unfold brakeText
      rw [if_pos g1, g2]
  · exact ⟨rfl, rfl, rfl⟩

/-! doors -/
def DoorIs (s : ByteArray) (p k r : Int) (ok : Bool) : Prop := (ok = true ∧ validDoor p k r = true ∧ doorTx p k r = s) ∨ (ok = false ∧ p = 0 ∧ k = 0 ∧ r = 0 ∧ ∀ p k r, validDoor p k r = true → doorTx p k r ≠ s)
theorem door_some (s : ByteArray) : ∃ p k r ok, DoorIs s p k r ok := by
  by_cases h : ∃ p k r, validDoor p k r = true ∧ doorTx p k r = s
  · obtain ⟨p, k, r, h1, h2⟩ := h
    exact ⟨p, k, r, true, .inl ⟨rfl, h1, h2⟩⟩
  · exact ⟨0, 0, 0, false, .inr ⟨rfl, rfl, rfl, rfl, fun i j r h1 h2 => h ⟨i, j, r, h1, h2⟩⟩⟩
theorem validDoor_p {p k r : Int} (h : validDoor p k r = true) : 0 ≤ p ∧ p ≤ 3 := by
  unfold validDoor at h
  rw [Bool.and_eq_true, inB_true] at h
  exact h.1
theorem doorName_cases {p : Int} (h0 : 0 ≤ p) (h1 : p ≤ 3) : (p = 0 ∧ doorName p = ⟨#[115, 104, 117, 116]⟩) ∨ (p = 1 ∧ doorName p = ⟨#[111, 112, 101, 110, 105, 110, 103]⟩) ∨ (p = 2 ∧ doorName p = ⟨#[111, 112, 101, 110]⟩) ∨ (p = 3 ∧ doorName p = ⟨#[115, 104, 117, 116, 116, 105, 110, 103]⟩) := by
  have : p = 0 ∨ p = 1 ∨ p = 2 ∨ p = 3 := by omega
  rcases this with rfl | rfl | rfl | rfl
  · exact .inl ⟨rfl, rfl⟩
  · exact .inr (.inl ⟨rfl, rfl⟩)
  · exact .inr (.inr (.inl ⟨rfl, rfl⟩))
  · exact .inr (.inr (.inr ⟨rfl, rfl⟩))
theorem doorName_free {p : Int} (h0 : 0 ≤ p) (h1 : p ≤ 3) : (47 : UInt8) ∉ (doorName p).data.toList := by
  rcases doorName_cases h0 h1 with ⟨_, e⟩ | ⟨_, e⟩ | ⟨_, e⟩ | ⟨_, e⟩ <;> rw [e] <;> decide
theorem doorName_inj {p q : Int} (h0 : 0 ≤ p) (h1 : p ≤ 3) (g0 : 0 ≤ q) (g1 : q ≤ 3) (h : doorName p = doorName q) : p = q := by
  have hl := congrArg (fun x : ByteArray => x.data.toList) h
  rcases doorName_cases h0 h1 with ⟨e, e'⟩ | ⟨e, e'⟩ | ⟨e, e'⟩ | ⟨e, e'⟩ <;> rcases doorName_cases g0 g1 with ⟨f, f'⟩ | ⟨f, f'⟩ | ⟨f, f'⟩ | ⟨f, f'⟩ <;> rw [e', f'] at hl <;> first | (rw [e, f]; done) | exact absurd hl (by decide)
theorem door_split {p k r : Int} (h0 : 0 ≤ p) (h1 : p ≤ 3) : splitL (doorTx p k r) 47 = [doorName p, dtx k, dtx r] := split_three (c := 47) (doorName_free h0 h1) (dtx_free k c47) (dtx_free r c47)
theorem door_inj {p k r p' k' r' : Int} (h : validDoor p k r = true) (h' : validDoor p' k' r' = true) (e : doorTx p k r = doorTx p' k' r') : p = p' ∧ k = k' ∧ r = r' := by
  have a := validDoor_p h
  have b := validDoor_p h'
  have c := validDoor_bd' h
  have d := validDoor_bd' h'
  have s1 := door_split (k := k) (r := r) a.1 a.2
  rw [e, door_split b.1 b.2] at s1
  obtain ⟨e1, s2⟩ := List.cons.inj s1
  obtain ⟨e2, s3⟩ := List.cons.inj s2
  obtain ⟨e3, _⟩ := List.cons.inj s3
  exact ⟨(doorName_inj b.1 b.2 a.1 a.2 e1).symm, (num_inj (by omega) e2 (by omega) (by omega)).symm, (num_inj (by omega) e3 (by omega) (by omega)).symm⟩
theorem door_hit {s : ByteArray} {p k r p' k' r' : Int} {ok : Bool} (hs : DoorIs s p k r ok) (h : validDoor p' k' r' = true) (e : doorTx p' k' r' = s) : ok = true ∧ p = p' ∧ k = k' ∧ r = r' := by
  rcases hs with ⟨rfl, g1, g2⟩ | ⟨rfl, _, _, _, g⟩
  · exact ⟨rfl, door_inj g1 h (g2.trans e.symm)⟩
  · exact absurd e (g _ _ _ h)
theorem door_none {s : ByteArray} {p k r : Int} {ok : Bool} (hs : DoorIs s p k r ok) (h : ∀ p k r, validDoor p k r = true → doorTx p k r ≠ s) : ok = false ∧ p = 0 ∧ k = 0 ∧ r = 0 := by
  rcases hs with ⟨rfl, g1, g2⟩ | ⟨rfl, a, b, c, g⟩
  · exact absurd g2 (h _ _ _ g1)
  · exact ⟨rfl, a, b, c⟩
theorem door_spec {s x y z : ByteArray} {p k r P : Int} {ok : Bool} (hs : DoorIs s p k r ok) (h : splitL s 47 = [x, y, z]) (h0 : doorName P = x) (h1 : numOk y = true) (h2 : numOk z = true) (h3 : validDoor P (numR y) (numR z) = true) : ok = true ∧ p = P ∧ k = numR y ∧ r = numR z := by
  obtain ⟨e, _⟩ := split_is_three (c := 47) h
  refine door_hit hs h3 ?_
  unfold doorTx
  rw [← (num_text h1).1, ← (num_text h2).1, h0]
  exact e.symm
theorem door_spec_no {s : ByteArray} {p k r : Int} {ok : Bool} (hs : DoorIs s p k r ok) (h : ∀ x y z P, splitL s 47 = [x, y, z] → doorName P = x → numOk y = true → numOk z = true → validDoor P (numR y) (numR z) = true → False) : ok = false ∧ p = 0 ∧ k = 0 ∧ r = 0 := by
  refine door_none hs fun P K R hv e => ?_
  have a := validDoor_p hv
  have c := validDoor_bd' hv
  have n1 := num_18 (z := K) (by omega) (by omega)
  have n2 := num_18 (z := R) (by omega) (by omega)
  exact h (doorName P) (dtx K) (dtx R) P (by rw [← e, door_split a.1 a.2]) rfl n1.1 n2.1 (by rw [n1.2, n2.2]; exact hv)
end Go.Proofs.YtejhngkbkcalaaaGreatDoor
