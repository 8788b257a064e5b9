/-
  Contracts: names.
-/
import Derived.Test.YtngeaojimehlbaaKC
import Derived.Test.YtngeaojimehlbaaWp
import Derived.Test.YtngeaojimehlbaaQt
import Derived.Laws.IdiomStrings
import Derived.WalkLawsBesides
import Derived.Lib.Hide
namespace Go.Proofs.Ytngeaojimehlbaa
open Go.RowKit
set_option linter.unusedVariables false
set_option linter.unusedSimpArgs false


theorem spec_l01Small (z : Int) (w : World) : Calls Try.prog 75 #[.int .u8 z] w fun e w' => e = .returned (.bool (inB z 97 122)) ∧ w = w' := by
  by_cases h : 97 ≤ z
  · by_cases h2 : z ≤ 122
    · have e : inB z 97 122 = true := inB_true.2 ⟨h, h2⟩
      rw [e]
      go_enter Try.func75, Try.ntmps75
      go_wp2
      go_returns
      exact ⟨rfl, rfl⟩
    · have e : inB z 97 122 = false := by cases hh : inB z 97 122; rfl; exact absurd (inB_true.1 hh).2 h2
      rw [e]
      go_enter Try.func75, Try.ntmps75
      go_wp2
      go_returns
      exact ⟨rfl, rfl⟩
  · have e : inB z 97 122 = false := by cases hh : inB z 97 122; rfl; exact absurd (inB_true.1 hh).1 h
    rw [e]
    go_enter Try.func75, Try.ntmps75
    go_wp2
    go_returns
    exact ⟨rfl, rfl⟩

theorem spec_l01Digit (z : Int) (w : World) : Calls Try.prog 76 #[.int .u8 z] w fun e w' => e = .returned (.bool (inB z 48 57)) ∧ w = w' := by
  by_cases h : 48 ≤ z
  · by_cases h2 : z ≤ 57
    · have e : inB z 48 57 = true := inB_true.2 ⟨h, h2⟩
      rw [e]
      go_enter Try.func76, Try.ntmps76
      go_wp2
      go_returns
      exact ⟨rfl, rfl⟩
    · have e : inB z 48 57 = false := by cases hh : inB z 48 57; rfl; exact absurd (inB_true.1 hh).2 h2
      rw [e]
      go_enter Try.func76, Try.ntmps76
      go_wp2
      go_returns
      exact ⟨rfl, rfl⟩
  · have e : inB z 48 57 = false := by cases hh : inB z 48 57; rfl; exact absurd (inB_true.1 hh).1 h
    rw [e]
    go_enter Try.func76, Try.ntmps76
    go_wp2
    go_returns
    exact ⟨rfl, rfl⟩

theorem bytes_cell (w : World) (s : ByteArray) (c : Nat) (e : TypeId) (f : Nat × Nat) {j : Nat} (h : j < s.size) : (w.drew.alloc (.cells (bytesRow s c) e f)).cell? ⟨w.heap.size, j, none⟩ = some (.int .u8 ((s.get! j).toNat : Int)) := by
  have h1 : (bytesRow s c)[j]? = some (.int .u8 ((s.get! j).toNat : Int)) := by
    unfold bytesRow
    rw [Array.getElem?_append_left (by simpa using h)]
    rw [Array.getElem?_map]
    have : s.data[j]? = some (s.get! j) := by
      rw [Array.getElem?_eq_getElem (by simpa using h)]
      simp [ByteArray.get!, getElem!_pos, h]
    rw [this]; rfl
  have h2 : (w.alloc (.cells (bytesRow s c) e f)).heap[w.heap.size]? = some (.cells (bytesRow s c) e f) := by
    show (w.heap.push _)[w.heap.size]? = _
    simp
  show (w.alloc (.cells (bytesRow s c) e f)).cell? ⟨w.heap.size, j, none⟩ = _
  unfold World.cell?
  simp only [h2]
  exact h1
theorem nameAt_eq {s : ByteArray} {k : Nat} {z : Int} (h : ((s.get! k).toNat : Int) = z) : nameAt s k = (inB z 97 122 || (decide (0 < k) && inB z 48 57)) := by
  unfold nameAt smallB digitB; rw [h]
theorem inB_lo {z a b : Int} (h : z < a) : inB z a b = false := by
  cases hh : inB z a b
  · rfl
  · exact absurd (inB_true.1 hh).1 (by omega)
theorem inB_hi {z a b : Int} (h : b < z) : inB z a b = false := by
  cases hh : inB z a b
  · rfl
  · exact absurd (inB_true.1 hh).2 (by omega)
theorem any_step {q : Nat → Bool} {k : Nat} (h : any q k = false) (hk : q k = false) : any q (k + 1) = false := any_false.2 (fun j hj => by
  rcases Nat.lt_or_ge j k with h1 | h1
  · exact any_false.1 h j h1
  · obtain rfl : j = k := by omega
    exact hk)
theorem get_byte {s : ByteArray} {k : Nat} (h : k < s.size) : s[k]'h = s.get! k := by
  simp [ByteArray.get!, getElem!_pos, h]
  rfl
set_option maxRecDepth 100000 in
set_option maxHeartbeats 1000000 in
theorem impl_IsName (s : ByteArray) (w : World) (hs : s.size ≤ 9223372036854775807) : Calls Try.prog 74 #[.string s] w fun e w' => e = .returned (.bool (nameB s)) ∧ Below w.heap.size w w' := by
  have hconv := run_bytes_of_string (P := Try.prog) w 9 40 5 s Try.underlying9 Try.underlying40 Try.underlying5
  by_cases h1 : s.size < 1
  · have e : nameB s = false := by unfold nameB; rw [decide_eq_false (by omega)]; rfl
    rw [e]
    have h1' : (s.size : Int) < 1 := by omega
    clear hconv
    go_enter Try.func74, Try.ntmps74
    go_wp2
    go_returns
    exact ⟨rfl, Below.refl _ _⟩
  · have h1' : ¬ (s.size : Int) < 1 := by omega
    by_cases h2 : 10 < s.size
    · have e : nameB s = false := by unfold nameB; rw [decide_eq_false (by omega)]; rfl
      rw [e]
      have h2' : (10 : Int) < (s.size : Int) := by omega
      clear hconv
      go_enter Try.func74, Try.ntmps74
      go_wp2
      go_returns
      exact ⟨rfl, Below.refl _ _⟩
    · have h2' : ¬ (10 : Int) < (s.size : Int) := by omega
      have e : nameB s = !any (fun i => !nameAt s i) s.size := by unfold nameB; rw [decide_eq_true (by omega)]; rfl
      rw [e]
      have hcell := fun j h => bytes_cell w s (grownCap w s.size 0 5) 5 ((bytesRow s (grownCap w s.size 0 5)).size, (bytesRow s (grownCap w s.size 0 5)).size + 1) (j := j) h
      have hBB : Below w.heap.size w (w.drew.alloc (.cells (bytesRow s (grownCap w s.size 0 5)) 5 ((bytesRow s (grownCap w s.size 0 5)).size, (bytesRow s (grownCap w s.size 0 5)).size + 1))) := Below.alloc (Below.drew (Below.refl _ _)) (Nat.le_refl _) _
      have HC := Lib.hid hcell
      have hSZ := Lib.hid (show w.heap.size + 1 = (w.drew.alloc (.cells (bytesRow s (grownCap w s.size 0 5)) 5 ((bytesRow s (grownCap w s.size 0 5)).size, (bytesRow s (grownCap w s.size 0 5)).size + 1))).heap.size by simp)
      clear hcell e
      generalize hnn : s.size = n at *
      generalize (w.drew.alloc (.cells (bytesRow s (grownCap w n 0 5)) 5 ((bytesRow s (grownCap w n 0 5)).size, (bytesRow s (grownCap w n 0 5)).size + 1))) = W at *
      generalize grownCap w n 0 5 = cap at *
      go_enter Try.func74, Try.ntmps74
      go_wp2
      go_loop [18] (fun i => ∃ k : Nat, k ≤ n ∧ i = .int .i64 k ∧ any (fun i => !nameAt s i) k = false) (fun i => n - (intOf i).toNat)
      case atStart => exact ⟨0, by omega, rfl, rfl⟩
      case round =>
        obtain ⟨k, hk, rfl, hno⟩ := hrel
        by_cases hlt : k < n
        · have hcb := HC.out k (by omega)
          have hb1 : w.heap.size < W.heap.size := by have := hSZ.out; omega
          have hv := nameAt_eq (s := s) (k := k) rfl
          generalize ((s.get! k).toNat : Int) = z at *
          rcases (show z < 48 ∨ (48 ≤ z ∧ z ≤ 57) ∨ (57 < z ∧ z < 97) ∨ (97 ≤ z ∧ z ≤ 122) ∨ 122 < z by omega) with z1 | ⟨z1, z2⟩ | ⟨z1, z2⟩ | ⟨z1, z2⟩ | z1
          · have hno2 : nameAt s k = false := by rw [hv, inB_lo (by omega), inB_lo (by omega)]; simp
            have g1 : ¬ 97 ≤ z := by omega
            have g2 : ¬ 48 ≤ z := by omega
            have H := Lib.hid (show any (fun i => !nameAt s i) n = true from any_true.2 ⟨k, hlt, by rw [hno2]; rfl⟩)
            clear hno hno2 hv
            go_wp2
            all_goals
              go_ret
              exact ⟨by rw [H.out]; rfl, hBB⟩
          · have g1 : ¬ 97 ≤ z := by omega
            rcases Nat.eq_zero_or_pos k with rfl | hk0
            · have hno2 : nameAt s 0 = false := by rw [hv, inB_lo (by omega)]; simp
              have H := Lib.hid (show any (fun i => !nameAt s i) n = true from any_true.2 ⟨0, hlt, by rw [hno2]; rfl⟩)
              clear hno hno2 hv
              go_wp2
              all_goals
                go_ret
                exact ⟨by rw [H.out]; rfl, hBB⟩
            · have hno2 : nameAt s k = true := by rw [hv, decide_eq_true hk0, inB_true.2 ⟨z1, z2⟩]; simp
              have hke : ((k : Int) == 0) = false := beq_eq_false_iff_ne.2 (by omega)
              have hke2 : ¬ (k : Int) = 0 := by omega
              have H := Lib.hid (any_step hno (show (!nameAt s k) = false by rw [hno2]; rfl))
              clear hno hno2 hv
              go_wp2
              go_round
              case rel => exact ⟨k + 1, by omega, by go_num, H.out⟩
              case measure => simp [intOf]; omega
          · have hno2 : nameAt s k = false := by rw [hv, inB_lo (by omega), inB_hi (by omega)]; simp
            have g1 : ¬ 97 ≤ z := by omega
            have g2 : 48 ≤ z := by omega
            have g3 : ¬ z ≤ 57 := by omega
            have H := Lib.hid (show any (fun i => !nameAt s i) n = true from any_true.2 ⟨k, hlt, by rw [hno2]; rfl⟩)
            clear hno hno2 hv
            go_wp2
            all_goals
              go_ret
              exact ⟨by rw [H.out]; rfl, hBB⟩
          · have hno2 : nameAt s k = true := by rw [hv, inB_true.2 ⟨z1, z2⟩]; simp
            have g2 : 48 ≤ z := by omega
            have g3 : ¬ z ≤ 57 := by omega
            have H := Lib.hid (any_step hno (show (!nameAt s k) = false by rw [hno2]; rfl))
            clear hno hno2 hv
            go_wp2
            go_round
            case rel => exact ⟨k + 1, by omega, by go_num, H.out⟩
            case measure => simp [intOf]; omega
          · have hno2 : nameAt s k = false := by rw [hv, inB_hi (by omega), inB_hi (by omega)]; simp
            have g1 : 97 ≤ z := by omega
            have g4 : ¬ z ≤ 122 := by omega
            have g2 : 48 ≤ z := by omega
            have g3 : ¬ z ≤ 57 := by omega
            have H := Lib.hid (show any (fun i => !nameAt s i) n = true from any_true.2 ⟨k, hlt, by rw [hno2]; rfl⟩)
            clear hno hno2 hv
            go_wp2
            all_goals
              go_ret
              exact ⟨by rw [H.out]; rfl, hBB⟩
        · obtain rfl : k = n := by omega
          have H := Lib.hid hno
          clear hno
          go_wp2
          all_goals
            go_ret
            exact ⟨by rw [H.out]; rfl, hBB⟩

set_option maxHeartbeats 1000000 in
theorem spec_l01Name (s : ByteArray) (w : World) (hs : s.size ≤ 9223372036854775807) : Calls Try.prog 73 #[.string s] w fun e w' => e = .returned (.bool (nameB s)) ∧ w = w' := by
  by_cases h1 : s.size < 1
  · have e : nameB s = false := by unfold nameB; rw [decide_eq_false (by omega)]; rfl
    rw [e]
    obtain rfl : s = ByteArray.empty := by
      apply ByteArray.ext
      exact Array.eq_empty_of_size_eq_zero (by have : s.data.size = s.size := rfl; omega)
    go_enter Try.func73, Try.ntmps73
    go_wp2
    go_returns
    exact ⟨rfl, rfl⟩
  · have hne : (s.toList == ([] : List UInt8)) = false := by
      rw [beq_eq_false_iff_ne, ByteArray.toList_eq]
      intro h
      have h3 : s.data.toList.length = 0 := by rw [h]; rfl
      rw [Array.length_toList] at h3
      have h2 : s.data.size = s.size := rfl
      omega
    by_cases h2 : 10 < s.size
    · have e : nameB s = false := by unfold nameB; rw [decide_eq_false (by omega)]; rfl
      rw [e]
      have h2' : (10 : Int) < (s.size : Int) := by omega
      go_enter Try.func73, Try.ntmps73
      go_wp2
      go_returns
      exact ⟨rfl, rfl⟩
    · have h2' : ¬ (10 : Int) < (s.size : Int) := by omega
      have e : nameB s = !any (fun i => !nameAt s i) s.size := by unfold nameB; rw [decide_eq_true (by omega)]; rfl
      rw [e]
      clear e
      have hstep : any (fun i => !nameAt s i) 0 = false := rfl
      generalize hnn : s.size = n at *
      have hc0 : 0 < s.size := by omega
      have hv0 := nameAt_eq (s := s) (k := 0) (z := ((s[0]'hc0).toNat : Int)) (by rw [get_byte hc0])
      generalize hz0 : ((s[0]'hc0).toNat : Int) = z0 at *
      have hv0' : nameAt s 0 = inB z0 97 122 := by rw [hv0]; simp
      have kS := fun z W => spec_l01Small z W
      have kD := fun z W => spec_l01Digit z W
      cases hs0 : inB z0 97 122
      · have H := Lib.hid (show any (fun i => !nameAt s i) n = true from any_true.2 ⟨0, by omega, by rw [hv0', hs0]; rfl⟩)
        have kS0 := kS z0
        rw [hs0] at kS0
        clear hv0 hv0' hs0 hstep
        go_enter Try.func73, Try.ntmps73
        go_wp2_with (go_at_call 75; (with_reducible refine (kS0 _).mono ?_); rintro e w' ⟨rfl, rfl⟩)
        go_returns
        exact ⟨by rw [H.out]; rfl, rfl⟩
      · have kS0 := kS z0
        rw [hs0] at kS0
        have HN0 := Lib.hid (hv0'.trans hs0)
        clear hv0 hv0' hs0 hstep
        go_enter Try.func73, Try.ntmps73
        go_wp2_with (go_at_call 75; (with_reducible refine (kS0 _).mono ?_); rintro e w' ⟨rfl, rfl⟩)
        go_loop [3] (fun i => ∃ k : Nat, k ≤ n ∧ i = .int .i64 k ∧ any (fun i => !nameAt s i) k = false) (fun i => n - (intOf i).toNat)
        case atStart => exact ⟨0, by omega, rfl, rfl⟩
        case round =>
          obtain ⟨k, hk, rfl, hno⟩ := hrel
          by_cases hlt : k < n
          · have hlt2 : k < s.size := by omega
            have i0 : (0 : Int) ≤ (k : Int) := by omega
            have i1 : (k : Int) < (s.size : Int) := by omega
            have hv := nameAt_eq (s := s) (k := k) (z := ((s[k]'hlt2).toNat : Int)) (by rw [get_byte hlt2])
            generalize hz : ((s[k]'hlt2).toNat : Int) = z at *
            have kz := kS z
            have kd := kD z
            cases ha : inB z 97 122
            · cases hd : inB z 48 57
              · have hno2 : nameAt s k = false := by rw [hv, ha, hd]; simp
                have H := Lib.hid (show any (fun i => !nameAt s i) n = true from any_true.2 ⟨k, hlt, by rw [hno2]; rfl⟩)
                rw [ha] at kz
                rw [hd] at kd
                clear hno hno2 hv ha hd
                go_wp2_with (first | (go_at_call 75; (with_reducible refine (kz _).mono ?_); rintro e w' ⟨rfl, rfl⟩) | (go_at_call 76; (with_reducible refine (kd _).mono ?_); rintro e w' ⟨rfl, rfl⟩))
                go_ret
                exact ⟨by rw [H.out]; rfl, rfl⟩
              · have hk0 : 0 < k := by
                  rcases Nat.eq_zero_or_pos k with rfl | h
                  · rw [HN0.out, ha] at hv; simp at hv
                  · exact h
                have hno2 : nameAt s k = true := by rw [hv, ha, hd, decide_eq_true hk0]; simp
                rw [ha] at kz
                rw [hd] at kd
                clear hd
                have H := Lib.hid (any_step hno (show (!nameAt s k) = false by rw [hno2]; rfl))
                clear hno hno2 hv ha
                go_wp2_with (first | (go_at_call 75; (with_reducible refine (kz _).mono ?_); rintro e w' ⟨rfl, rfl⟩) | (go_at_call 76; (with_reducible refine (kd _).mono ?_); rintro e w' ⟨rfl, rfl⟩))
                go_round
                case rel => exact ⟨k + 1, by omega, by go_num, H.out⟩
                case measure => simp [intOf]; omega
            · have hno2 : nameAt s k = true := by rw [hv, ha]; simp
              rw [ha] at kz
              have H := Lib.hid (any_step hno (show (!nameAt s k) = false by rw [hno2]; rfl))
              clear hno hno2 hv ha
              go_wp2_with (first | (go_at_call 75; (with_reducible refine (kz _).mono ?_); rintro e w' ⟨rfl, rfl⟩) | (go_at_call 76; (with_reducible refine (kd _).mono ?_); rintro e w' ⟨rfl, rfl⟩))
              go_round
              case rel => exact ⟨k + 1, by omega, by go_num, H.out⟩
              case measure => simp [intOf]; omega
          · obtain rfl : k = n := by omega
            have H := Lib.hid hno
            clear hno
            go_wp2
            go_ret
            exact ⟨by rw [H.out]; rfl, rfl⟩

end Go.Proofs.Ytngeaojimehlbaa
