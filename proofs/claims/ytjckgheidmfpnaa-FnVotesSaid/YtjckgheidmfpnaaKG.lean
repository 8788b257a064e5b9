/-
  Contracts: settled numbers.
-/
import Derived.Test.YtjckgheidmfpnaaKQ
import Derived.Test.YtjckgheidmfpnaaKF
import Derived.Test.YtjckgheidmfpnaaAp
import Derived.Test.YtjckgheidmfpnaaPj
namespace Go.Proofs.Ytjckgheidmfpnaa
open Go.RowKit
set_option linter.unusedVariables false
set_option linter.unusedSimpArgs false


set_option maxHeartbeats 2000000 in
theorem impl_Settled (a : Option Addr) (n c : Nat) (Z : Nat → Int) (t : Int) (w : World) (hz : IntsAt w a n Z) (hn : n ≤ 1048576) :
    Calls Try.prog 12 #[.slice a n c, .int .i64 t] w (RetInts (settledL Z t n) (settledCode Z t n) w) := by
  have k1 := fun W h => impl_areReadings a n c 0 Z W h hn
  rw [show decide ((0 : Int) ≤ n) = true by simp, Bool.true_and] at k1
  have k2 := fun W => impl_within t 1 32 W
  cases h : settledOk Z t n
  · obtain ⟨e1, e2⟩ := settled_no h
    rw [e1, e2]
    clear e1 e2
    unfold settledOk at h
    cases h1 : readV Z n
    · rw [h1] at k1
      clear h h1
      go_enter Try.func12, Try.ntmps12
      go_wp2_with (first | (go_at_call 19; (with_reducible refine (k1 _ hz).mono ?_); rintro e w' ⟨rfl, rfl⟩) | (go_at_call 20; (with_reducible refine (k2 _).mono ?_); rintro e w' ⟨rfl, rfl⟩))
      go_returns
      exact ret_none (by go_grown)
    · rw [h1, Bool.true_and] at h
      rw [h1] at k1
      rw [h] at k2
      clear h h1
      go_enter Try.func12, Try.ntmps12
      go_wp2_with (first | (go_at_call 19; (with_reducible refine (k1 _ hz).mono ?_); rintro e w' ⟨rfl, rfl⟩) | (go_at_call 20; (with_reducible refine (k2 _).mono ?_); rintro e w' ⟨rfl, rfl⟩))
      go_returns
      exact ret_none (by go_grown)
  · obtain ⟨e1, e2⟩ := settled_yes h
    rw [e1, e2]
    clear e1 e2
    unfold settledOk at h
    rw [Bool.and_eq_true] at h
    obtain ⟨h1, h2⟩ := h
    have h32 := readV_le h1
    rw [h1] at k1
    rw [h2] at k2
    clear h1 h2
    go_enter Try.func12, Try.ntmps12
    go_wp2_with (first | (go_at_call 19; (with_reducible refine (k1 _ hz).mono ?_); rintro e w' ⟨rfl, rfl⟩) | (go_at_call 20; (with_reducible refine (k2 _).mono ?_); rintro e w' ⟨rfl, rfl⟩))
    go_loopw [6, 7, 8, 21] (fun o r l i wr => ∃ k : Nat, k ≤ n ∧ i = .int .i64 k ∧ r = .int .i64 (rowZ Z k) ∧ l = .int .i64 (lastZ Z t k) ∧ AppOf w.heap.size wr o ((List.range k).map fun j => lastZ Z t (j + 1)) ∧ Below w.heap.size w wr) (fun _ _ _ i _ => n - (intOf i).toNat)
    case atStart => exact ⟨0, by omega, rfl, rfl, rfl, AppOf.nil _ _, Below.refl _ _⟩
    case round =>
      obtain ⟨k, hk, rfl, rfl, rfl, hA, hB⟩ := hrel
      by_cases hlt : k < n
      · obtain ⟨b, o, rfl, hb, hc⟩ := hz (by omega)
        have hq := hB.size
        have hb' : b < wr.heap.size := Nat.lt_of_lt_of_le hb hB.size
        have ck := (hB.cell (p := ⟨b, o + k, none⟩) hb).trans (hc k hlt)
        have hlen : ((List.range k).map fun j => lastZ Z t (j + 1)).length ≤ 16777216 := by simp; omega
        have hsn := range_snoc (fun j => lastZ Z t (j + 1)) k
        rcases k with _ | m
        · have HS := Lib.hid hsn
          have HR := Lib.hid (row_1 Z)
          have HL := Lib.hid (last_1 Z t)
          rw [Nat.add_zero] at ck
          clear hsn hc k1 k2
          generalize ((List.range 0).map fun j => lastZ Z t (j + 1)) = L at *
          rw [show rowZ Z 0 = 0 from rfl, show lastZ Z t 0 = 0 from rfl]
          by_cases ht : t ≤ 1
          all_goals
            go_wp2_with (at_builtin; refine app_int _ rfl _ _ rfl w.heap.size _ _ rfl (hA.alloc _) wr.heap.size 1 (Z 0) rfl (by first | go_cell | (rw [World.cell?_alloc_at _ _ _ _ rfl]; rfl)) hlen (by first | (simp; omega) | (show _ ≤ _ + 1; omega)) ?_; intro v' w1 hA' hw1)
            go_roundw
            case rel => exact ⟨1, by omega, by go_num, by rw [HR.out], by rw [HL.out], by rw [HS.out, HL.out]; exact hA', (Below.alloc hB hq _).trans hw1⟩
            case measure => simp [intOf]; omega
        · have cm := (hB.cell (p := ⟨b, o + m, none⟩) hb).trans (hc m (by omega))
          have HS := Lib.hid hsn
          obtain ⟨r0, r1⟩ := rowZ_bd Z (m + 1)
          clear hsn hc k1 k2
          generalize ((List.range (m + 1)).map fun j => lastZ Z t (j + 1)) = L at *
          cases he : (Z (m + 1) != Z m)
          · have hR := row_same he
            by_cases ht : t ≤ rowZ Z (m + 1) + 1
            · have hL := last_new (Z := Z) (t := t) (k := m + 1) (by rw [hR]; exact ht)
              have HR := Lib.hid hR
              have HL := Lib.hid hL
              clear hR hL
              generalize rowZ Z (m + 1) = R at *
              generalize lastZ Z t (m + 1) = l0 at *
              go_wp2_with (at_builtin; refine app_int _ rfl _ _ rfl w.heap.size _ _ rfl (hA.alloc _) wr.heap.size 1 (Z (m + 1)) rfl (by first | go_cell | (rw [World.cell?_alloc_at _ _ _ _ rfl]; rfl)) hlen (by first | (simp; omega) | (show _ ≤ _ + 1; omega)) ?_; intro v' w1 hA' hw1)
              go_roundw
              case rel => exact ⟨m + 1 + 1, by omega, by go_num, by rw [HR.out], by rw [HL.out], by rw [HS.out, HL.out]; exact hA', (Below.alloc hB hq _).trans hw1⟩
              case measure => simp [intOf]; omega
            · have hL := last_old (Z := Z) (t := t) (m := m) (by rw [hR]; exact ht)
              have HR := Lib.hid hR
              have HL := Lib.hid hL
              clear hR hL
              generalize rowZ Z (m + 1) = R at *
              generalize lastZ Z t (m + 1) = l0 at *
              go_wp2_with (at_builtin; refine app_int _ rfl _ _ rfl w.heap.size _ _ rfl (hA.alloc _) wr.heap.size 1 (l0) rfl (by first | go_cell | (rw [World.cell?_alloc_at _ _ _ _ rfl]; rfl)) hlen (by first | (simp; omega) | (show _ ≤ _ + 1; omega)) ?_; intro v' w1 hA' hw1)
              go_roundw
              case rel => exact ⟨m + 1 + 1, by omega, by go_num, by rw [HR.out], by rw [HL.out], by rw [HS.out, HL.out]; exact hA', (Below.alloc hB hq _).trans hw1⟩
              case measure => simp [intOf]; omega
          · have hR := row_other he
            by_cases ht : t ≤ 1
            · have hL := last_new (Z := Z) (t := t) (k := m + 1) (by rw [hR]; exact ht)
              have HR := Lib.hid hR
              have HL := Lib.hid hL
              clear hR hL
              generalize rowZ Z (m + 1) = R at *
              generalize lastZ Z t (m + 1) = l0 at *
              go_wp2_with (at_builtin; refine app_int _ rfl _ _ rfl w.heap.size _ _ rfl (hA.alloc _) wr.heap.size 1 (Z (m + 1)) rfl (by first | go_cell | (rw [World.cell?_alloc_at _ _ _ _ rfl]; rfl)) hlen (by first | (simp; omega) | (show _ ≤ _ + 1; omega)) ?_; intro v' w1 hA' hw1)
              go_roundw
              case rel => exact ⟨m + 1 + 1, by omega, by go_num, by rw [HR.out], by rw [HL.out], by rw [HS.out, HL.out]; exact hA', (Below.alloc hB hq _).trans hw1⟩
              case measure => simp [intOf]; omega
            · have hL := last_old (Z := Z) (t := t) (m := m) (by rw [hR]; exact ht)
              have HR := Lib.hid hR
              have HL := Lib.hid hL
              clear hR hL
              generalize rowZ Z (m + 1) = R at *
              generalize lastZ Z t (m + 1) = l0 at *
              go_wp2_with (at_builtin; refine app_int _ rfl _ _ rfl w.heap.size _ _ rfl (hA.alloc _) wr.heap.size 1 (l0) rfl (by first | go_cell | (rw [World.cell?_alloc_at _ _ _ _ rfl]; rfl)) hlen (by first | (simp; omega) | (show _ ≤ _ + 1; omega)) ?_; intro v' w1 hA' hw1)
              go_roundw
              case rel => exact ⟨m + 1 + 1, by omega, by go_num, by rw [HR.out], by rw [HL.out], by rw [HS.out, HL.out]; exact hA', (Below.alloc hB hq _).trans hw1⟩
              case measure => simp [intOf]; omega
      · obtain rfl : k = n := by omega
        go_wp2
        go_returns
        exact hA.ret hB

end Go.Proofs.Ytjckgheidmfpnaa
