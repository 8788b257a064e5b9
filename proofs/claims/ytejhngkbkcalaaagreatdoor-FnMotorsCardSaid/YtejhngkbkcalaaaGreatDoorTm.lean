/-
  Contracts: the text of a motor; the walk of its law.
-/
import Derived.Test.YtejhngkbkcalaaaGreatDoorTl
import Derived.Test.YtejhngkbkcalaaaGreatDoorPmk
import Derived.Test.YtejhngkbkcalaaaGreatDoorTs
import Derived.Test.YtejhngkbkcalaaaGreatDoorM1
import Derived.Test.YtejhngkbkcalaaaGreatDoorAn
import Derived.Test.YtejhngkbkcalaaaGreatDoorQu
namespace Go.Proofs.YtejhngkbkcalaaaGreatDoor
open Go.RowKit
open Go.Lib (itoa decDigits)
set_option linter.unusedVariables false
set_option linter.unusedSimpArgs false

def wordsL (Z : Nat → Int) (k : Nat) : List ByteArray := (List.range k).map fun j => dtx (Z j)
theorem wordsL_len (Z : Nat → Int) (k : Nat) : (wordsL Z k).length = k := by simp [wordsL]
theorem wordsL_succ (Z : Nat → Int) (k : Nat) : wordsL Z (k + 1) = wordsL Z k ++ [dtx (Z k)] := by simp [wordsL, List.range_succ]
theorem words_join (Z : Nat → Int) {n : Nat} (hn : 0 < n) : Go.Lib.join ((wordsL Z n).map (·.data.toList)) [44] = accL Z n := by
  obtain ⟨k, rfl⟩ : ∃ k, n = k + 1 := ⟨n - 1, by omega⟩
  rw [← join_acc]
  unfold wordsL
  rw [List.map_map]
  rfl

set_option maxHeartbeats 1000000 in
theorem impl_ListText (a : Option Addr) (n c : Nat) (Z : Nat → Int) (w : World) (hz : IntsAt w a n Z) (hn : n ≤ 64) (hn0 : 0 < n) (hb : ∀ j, j < n → -9223372036854775808 ≤ Z j ∧ Z j ≤ 9223372036854775807)
    (hv : any (fun j => !inB (Z j) (-1000000000000) 1000000000000) n = false) (hT : PowAt w) :
    Calls Tryz.prog 38 #[.slice a n c] w fun e w' => e = .returned (.string (listTx Z n)) ∧ Below w.heap.size w w' := by
  have kc := fun W h => impl_ListText_1_contains a n c Z W h (by omega)
  rw [hv] at kc
  clear hv
  have nz : ((n : Int) == 0) = false := beq_eq_false_iff_ne.2 (by omega)
  have hl := accL_len hb n (Nat.le_refl _)
  have HJ := Lib.hid (words_join Z hn0)
  have HR := Lib.hid (show listTx Z n = ⟨(accL Z n).toArray⟩ by unfold listTx listL; rw [if_neg (by omega)])
  have HW := Lib.hid (wordsL_len Z n)
  generalize listTx Z n = R at *
  go_enter Tryz.func38, Tryz.ntmps38
  go_wp2_with (go_at_call 45; (with_reducible refine (kc _ hz).mono ?_); rintro e w' ⟨rfl, rfl⟩)
  go_loopw [3, 18] (fun s i wr => ∃ k : Nat, k ≤ n ∧ i = .int .i64 k ∧ StrsOf w.heap.size wr s (wordsL Z k) ∧ Below w.heap.size w wr) (fun _ i _ => n - (intOf i).toNat)
  case atStart => exact ⟨0, by omega, rfl, ⟨rfl, .inl ⟨rfl, rfl⟩⟩, Below.refl _ _⟩
  case round =>
    obtain ⟨k, hk, rfl, hS, hB⟩ := hrel
    by_cases hlt : k < n
    · obtain ⟨b, o, rfl, hbb, hc⟩ := hz hn0
      have ck := (hB.cell (p := ⟨b, o + k, none⟩) hbb).trans (hc k hlt)
      have hb1 : b < wr.heap.size := Nat.lt_of_lt_of_le hbb hB.size
      have kd := fun W h => impl_Decimal_t (Z k) W (hb k hlt).1 (hb k hlt).2 h
      have k0 : (0 : Int) ≤ (k : Int) := by omega
      have k1 : (k : Int) < (n : Int) := by omega
      have HN := Lib.hid (wordsL_succ Z k)
      have hL := wordsL_len Z k
      generalize wordsL Z k = L at *
      clear hc
      generalize dtx (Z k) = T at *
      go_wp2_with (first | (go_at_call 50; (with_reducible refine (kd _ (hT.below hB)).mono ?_); rintro e w7 ⟨rfl, hb⟩; have hS7 := hS.below hb; have hB7 := hB.trans (hb.mono hB.size); clear hb) | (at_builtin; refine app_cells 70 9 _ 1 16 string_info Tryz.underlying70 rfl (by decide) (by decide) _ rfl _ _ rfl w.heap.size _ _ _ rfl (World.ownsRow.alloc hS7 _) _ _ [.string T] rfl rfl (cells1 (by go_cell)) (oneS _) (by omega) (by have := hB7.size; simp; omega) ?_; intro v' w8 hL hb8 _; have hS8 := StrsOf.snoc (c := T) hL; have hB8 := (Below.alloc hB7 hB7.size _).trans hb8; clear hL hb8))
      go_roundw
      case rel => exact ⟨k + 1, by omega, by go_num, by rw [HN.out]; exact hS8, hB8⟩
      case measure => simp [intOf]; omega
    · obtain rfl : k = n := by omega
      obtain ⟨g, c8, rfl, hg, hc8, hcs⟩ := hS.at (by rw [wordsL_len]; omega)
      have kj := fun W hcells hbk => Go.Proofs.Tryz.strings_Join g 0 c8 (wordsL Z k) ⟨#[44]⟩ W hcells hbk (by rw [wordsL_len]; omega) hc8 (by show (Go.Lib.join _ [44]).length ≤ _; rw [HJ.out]; omega)
      have HE := Lib.hid (show (⟨(Go.Lib.join ((wordsL Z k).map (·.data.toList)) ((⟨#[44]⟩ : ByteArray).data.toList)).toArray⟩ : ByteArray) = R by show (⟨(Go.Lib.join _ [44]).toArray⟩ : ByteArray) = R; rw [HJ.out, HR.out])
      rw [HE.out] at kj
      rw [HW.out] at *
      go_wp2_with (go_at_call 51; (with_reducible refine (kj _ hcs hg).mono ?_); rintro e w7 ⟨rfl, hb⟩; have hB7 := hB.trans (hb.mono hB.size))
      go_returns
      exact ⟨rfl, hB7⟩

def mz (p m l : Int) : Nat → Int | 0 => p | 1 => m | _ => l
def motorText (p m l : Int) : ByteArray := if motorOk p m l = true then listTx (mz p m l) 3 else ⟨#[]⟩
theorem mz_bd {p m l : Int} (h : motorOk p m l = true) : ∀ j, j < 3 → -1000000000 ≤ mz p m l j ∧ mz p m l j ≤ 1000000000 := by
  obtain ⟨⟨a, b⟩, ⟨c, d⟩, e, f⟩ := motorOk_bd h
  intro j hj
  rcases j with _ | _ | j
  · show _ ≤ p ∧ p ≤ _; omega
  · show _ ≤ m ∧ m ≤ _; omega
  · show _ ≤ l ∧ l ≤ _; omega
theorem mz_any {p m l : Int} (h : motorOk p m l = true) : any (fun j => !inB (mz p m l j) (-1000000000000) 1000000000000) 3 = false := by
  have hb := mz_bd h
  rw [any_false]
  intro j hj
  have := hb j hj
  have hi : inB (mz p m l j) (-1000000000000) 1000000000000 = true := by rw [inB_true]; omega
  simp only [hi]; rfl
theorem mz_at {w : World} {g : Nat} {p m l : Int} (hg : g < w.heap.size) (c0 : w.cell? ⟨g, 0, none⟩ = some (.int .i64 p)) (c1 : w.cell? ⟨g, 1, none⟩ = some (.int .i64 m)) (c2 : w.cell? ⟨g, 2, none⟩ = some (.int .i64 l)) : IntsAt w (some ⟨g, 0, none⟩) 3 (mz p m l) := by
  intro _
  refine ⟨g, 0, rfl, hg, fun j hj => ?_⟩
  rcases j with _ | _ | _ | j
  · exact c0
  · exact c1
  · exact c2
  · omega

set_option maxHeartbeats 1000000 in
theorem impl_MotorText (p m l : Int) (w : World) (hT : PowAt w) : Calls Tryz.prog 15 #[.agg #[.int .i64 p, .int .i64 m, .int .i64 l]] w fun e w' => e = .returned (.string (motorText p m l)) ∧ Below w.heap.size w w' := by
  have kb := fun W => impl_ValidMotor p m l W
  unfold motorText
  cases h : motorOk p m l
  · rw [h] at kb
    go_enter Tryz.func15, Tryz.ntmps15
    go_wp2_with (go_at_call 37; (with_reducible refine (kb _).mono ?_); rintro e w' ⟨rfl, hb⟩; obtain ⟨hc, hf⟩ := bcell hb; have hz : w.heap.size < w'.heap.size := (by have := hb.size; (try simp at this); omega); have hB : Below w.heap.size w w' := Below.trans (by go_grown) (hb.mono (by go_size)))
    go_returns
    exact ⟨rfl, hB⟩
  · rw [h] at kb
    have kl := fun a c W hz hT => impl_ListText a 3 c (mz p m l) W hz (by omega) (by omega) (fun j hj => by have := mz_bd h j hj; omega) (mz_any h) hT
    rw [if_pos rfl]
    generalize listTx (mz p m l) 3 = R at *
    have hz3 := fun (W : World) (g : Nat) hg c0 c1 c2 => @mz_at W g p m l hg c0 c1 c2
    generalize mz p m l = Z at *
    go_enter Tryz.func15, Tryz.ntmps15
    go_wp2_with (first | (go_at_call 37; (with_reducible refine (kb _).mono ?_); rintro e w' ⟨rfl, hb⟩; obtain ⟨hc, hf⟩ := bcell hb; have hz : w.heap.size < w'.heap.size := (by have := hb.size; (try simp at this); omega); have hB : Below w.heap.size w w' := Below.trans (by go_grown) (hb.mono (by go_size))) | (go_at_call 38; (with_reducible refine (kl _ _ _ (hz3 _ _ (by simp) (by go_cell) (by go_cell) (by go_cell)) ((hT.below hB).below (by go_grown))).mono ?_); rintro e w8 ⟨rfl, hb8⟩; have hB8 : Below w.heap.size w w8 := Below.trans (by go_grown) (hb8.mono (by go_size))))
    go_returns
    exact ⟨rfl, hB8⟩

end Go.Proofs.YtejhngkbkcalaaaGreatDoor
