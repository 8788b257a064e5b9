/-
  Plain: lists of numbers read from texts; three numbers: a motor.
-/
import Derived.Test.YtejhngkbkcalaaaGreatDoorNsp
import Derived.Test.YtejhngkbkcalaaaGreatDoorTm
namespace Go.Proofs.YtejhngkbkcalaaaGreatDoor
open Go.RowKit
open Go.Lib (itoa decDigits)
set_option linter.unusedVariables false
set_option linter.unusedSimpArgs false

def pcN (s : ByteArray) : Nat := (splitL s 44).length
def pcS (s : ByteArray) (j : Nat) : ByteArray := (splitL s 44).getD j ⟨#[]⟩
def pcV (s : ByteArray) (j : Nat) : Int := numR (pcS s j)
def pcO (s : ByteArray) (j : Nat) : Bool := numOk (pcS s j)
def outB (Z : Nat → Int) (n : Nat) : Bool := any (fun j => !inB (Z j) (-1000000000000) 1000000000000) n
/-- What ListText gives of one number or more. -/
def ltx (Z : Nat → Int) (n : Nat) : ByteArray := if n ≤ 64 then (if outB Z n = true then ⟨#[]⟩ else listTx Z n) else ⟨#[]⟩
theorem ltx_many {Z : Nat → Int} {n : Nat} (h : ¬ n ≤ 64) : ltx Z n = ⟨#[]⟩ := by unfold ltx; rw [if_neg h]
theorem ltx_out {Z : Nat → Int} {n : Nat} (h : outB Z n = true) : ltx Z n = ⟨#[]⟩ := by unfold ltx; split <;> first | rw [if_pos h] | rfl
theorem ltx_in {Z : Nat → Int} {n : Nat} (hn : n ≤ 64) (h : outB Z n = false) : ltx Z n = listTx Z n := by unfold ltx; rw [if_pos hn, h, if_neg (by decide)]
theorem ba_app (a b : List UInt8) : (⟨(a ++ b).toArray⟩ : ByteArray) = ⟨a.toArray⟩ ++ ⟨b.toArray⟩ := by
  apply data_inj; rw [app_list]
theorem listTx_three (Z : Nat → Int) : listTx Z 3 = dtx (Z 0) ++ ⟨#[44]⟩ ++ dtx (Z 1) ++ ⟨#[44]⟩ ++ dtx (Z 2) := by
  apply data_inj
  simp only [app_list]
  unfold listTx listL
  rw [if_neg (by decide)]
  simp [accL, dtx]
theorem listTx_cong3 {Z Y : Nat → Int} (h0 : Z 0 = Y 0) (h1 : Z 1 = Y 1) (h2 : Z 2 = Y 2) : listTx Z 3 = listTx Y 3 := by rw [listTx_three, listTx_three, h0, h1, h2]
theorem free44 (z : Int) : (44 : UInt8) ∉ (dtx z).data.toList := dtx_free z (by decide)
theorem split_text3 (Z : Nat → Int) : splitL (listTx Z 3) 44 = [dtx (Z 0), dtx (Z 1), dtx (Z 2)] := by
  rw [listTx_three]
  exact split_three (c := 44) (free44 _) (free44 _) (free44 _)
/-- A text of three numbers is read as them. -/
theorem pc_text3 {s : ByteArray} {Z : Nat → Int} (hs : listTx Z 3 = s) (hb : ∀ j, j < 3 → -1000000000000 ≤ Z j ∧ Z j ≤ 1000000000000) :
    pcN s = 3 ∧ (∀ j, j < 3 → pcV s j = Z j ∧ pcO s j = true) ∧ outB (pcV s) 3 = false ∧ ltx (pcV s) 3 = s := by
  have hsp : splitL s 44 = [dtx (Z 0), dtx (Z 1), dtx (Z 2)] := by rw [← hs]; exact split_text3 Z
  have hj : ∀ j, j < 3 → pcV s j = Z j ∧ pcO s j = true := fun j hj => by
    have e : pcS s j = dtx (Z j) := by
      unfold pcS
      rw [hsp]
      rcases (show j = 0 ∨ j = 1 ∨ j = 2 by omega) with rfl | rfl | rfl <;> rfl
    have hz := hb j hj
    have := num_back (z := Z j) (by omega) (by omega)
    unfold pcV pcO
    rw [e]
    exact ⟨this.2, this.1⟩
  have ho : outB (pcV s) 3 = false := any_false.2 (fun j h => by
    rw [(hj j h).1, inB_true.2 (hb j h)]; rfl)
  refine ⟨by unfold pcN; rw [hsp]; rfl, hj, ho, ?_⟩
  rw [ltx_in (by decide) ho, listTx_cong3 (hj 0 (by decide)).1 (hj 1 (by decide)).1 (hj 2 (by decide)).1, hs]
theorem three_list {L : List ByteArray} (h : L.length = 3) : ∃ x y z, L = [x, y, z] := by
  rcases L with _ | ⟨x, _ | ⟨y, _ | ⟨z, _ | ⟨t, L⟩⟩⟩⟩ <;> simp at h
  exact ⟨x, y, z, rfl⟩
/-- Three pieces that all are numbers are the text of these numbers. -/
theorem pc_back3 {s : ByteArray} (hn : pcN s = 3) (h : ∀ j, j < 3 → pcO s j = true) : listTx (pcV s) 3 = s := by
  unfold pcN at hn
  obtain ⟨p, q, r, e⟩ := three_list hn
  have hs := (split_is_three (c := 44) e).1
  have e0 : pcS s 0 = p := by unfold pcS; rw [e]; rfl
  have e1 : pcS s 1 = q := by unfold pcS; rw [e]; rfl
  have e2 : pcS s 2 = r := by unfold pcS; rw [e]; rfl
  have h0 := h 0 (by decide)
  have h1 := h 1 (by decide)
  have h2 := h 2 (by decide)
  unfold pcO at h0 h1 h2
  rw [e0] at h0
  rw [e1] at h1
  rw [e2] at h2
  rw [listTx_three]
  unfold pcV
  rw [e0, e1, e2, ← (num_text h0).1, ← (num_text h1).1, ← (num_text h2).1]
  exact hs.symm
theorem ltx_text3 {s : ByteArray} (hn : pcN s = 3) (h : ltx (pcV s) 3 = s) : listTx (pcV s) 3 = s := by
  cases ho : outB (pcV s) 3
  · rw [← ltx_in (by decide) ho]; exact h
  · rw [ltx_out ho] at h
    subst h
    exact absurd hn (by decide)
theorem motor_read {s : ByteArray} {p m l : Int} {ok : Bool} (h : (ok = true ∧ motorOk p m l = true ∧ listTx (mz p m l) 3 = s) ∨ (ok = false ∧ p = 0 ∧ m = 0 ∧ l = 0 ∧ ∀ p m l, motorOk p m l = true → listTx (mz p m l) 3 ≠ s)) (hl : listTx (pcV s) 3 = s) :
    motorOk (pcV s 0) (pcV s 1) (pcV s 2) = ok ∧ ((ok = true ∧ p = pcV s 0 ∧ m = pcV s 1 ∧ l = pcV s 2) ∨ (ok = false ∧ p = 0 ∧ m = 0 ∧ l = 0)) := by
  rcases h with ⟨rfl, h3, h4⟩ | ⟨rfl, rfl, rfl, rfl, h3⟩
  · have hb := mz_bd h3
    obtain ⟨e1, e2, e3, e4⟩ := pc_text3 h4 (fun j hj => by have := hb j hj; omega)
    have f0 := (e2 0 (by decide)).1
    have f1 := (e2 1 (by decide)).1
    have f2 := (e2 2 (by decide)).1
    rw [f0, f1, f2]
    exact ⟨h3, Or.inl ⟨rfl, rfl, rfl, rfl⟩⟩
  · refine ⟨?_, Or.inr ⟨rfl, rfl, rfl, rfl⟩⟩
    cases h5 : motorOk (pcV s 0) (pcV s 1) (pcV s 2)
    · rfl
    · exact absurd ((listTx_cong3 rfl rfl rfl).trans hl) (h3 _ _ _ h5)
def MotorIs (s : ByteArray) (p m l : Int) (ok : Bool) : Prop := (ok = true ∧ motorOk p m l = true ∧ listTx (mz p m l) 3 = s) ∨ (ok = false ∧ p = 0 ∧ m = 0 ∧ l = 0 ∧ ∀ p m l, motorOk p m l = true → listTx (mz p m l) 3 ≠ s)
theorem motor_some (s : ByteArray) : ∃ p m l ok, MotorIs s p m l ok := by
  by_cases h : ∃ p m l, motorOk p m l = true ∧ listTx (mz p m l) 3 = s
  · obtain ⟨p, m, l, h1, h2⟩ := h
    exact ⟨p, m, l, true, .inl ⟨rfl, h1, h2⟩⟩
  · exact ⟨0, 0, 0, false, .inr ⟨rfl, rfl, rfl, rfl, fun i j r h1 h2 => h ⟨i, j, r, h1, h2⟩⟩⟩
theorem motor_yes {s : ByteArray} {p m l : Int} {ok : Bool} (h : MotorIs s p m l ok) (h2 : ok = true) :
    motorOk p m l = true ∧ pcN s = 3 ∧ pcV s 0 = p ∧ pcV s 1 = m ∧ pcV s 2 = l ∧ (∀ j, j < 3 → pcO s j = true) ∧ outB (pcV s) 3 = false ∧ ltx (pcV s) 3 = s := by
  rcases h with ⟨rfl, h3, h4⟩ | ⟨rfl, _⟩
  · have hb := mz_bd h3
    obtain ⟨e1, e2, e3, e4⟩ := pc_text3 h4 (fun j hj => by have := hb j hj; omega)
    exact ⟨h3, e1, (e2 0 (by decide)).1, (e2 1 (by decide)).1, (e2 2 (by decide)).1, fun j hj => (e2 j hj).2, e3, e4⟩
  · cases h2
theorem motor_no {s : ByteArray} {p m l : Int} {ok : Bool} (h : MotorIs s p m l ok) (h2 : ok = false) :
    p = 0 ∧ m = 0 ∧ l = 0 ∧ (listTx (pcV s) 3 = s → motorOk (pcV s 0) (pcV s 1) (pcV s 2) = false) := by
  rcases h with ⟨rfl, _⟩ | ⟨_, rfl, rfl, rfl, h3⟩
  · cases h2
  · refine ⟨rfl, rfl, rfl, fun h4 => ?_⟩
    cases h5 : motorOk (pcV s 0) (pcV s 1) (pcV s 2)
    · rfl
    · exact absurd ((listTx_cong3 rfl rfl rfl).trans h4) (h3 _ _ _ h5)
end Go.Proofs.YtejhngkbkcalaaaGreatDoor
