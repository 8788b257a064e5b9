/-
  Contracts: marks of slices of workers.
-/
import Derived.Test.YtngeaojimehlbaaKW2
import Derived.Test.YtngeaojimehlbaaPk
import Derived.Laws.BytesArg
import Derived.WalkLawsBesides
namespace Go.Proofs.Ytngeaojimehlbaa
open Go.RowKit
set_option linter.unusedVariables false
set_option linter.unusedSimpArgs false


set_option maxHeartbeats 1000000 in
theorem laws_markText (k : Int) (w : World) (h0 : 0 ≤ k) (h1 : k ≤ 1000000000000) : Calls Try.prog 41 #[.int .i64 k] w fun e w' => (∃ s : ByteArray, e = .returned (.string s)) ∧ Below w.heap.size w w' := by
  by_cases hk : k ≤ 0
  · go_enter Try.func41, Try.ntmps41
    go_wp2
    go_returns
    exact ⟨⟨_, rfl⟩, Below.refl _ _⟩
  · go_enter Try.func41, Try.ntmps41
    go_wp2
    go_loopw [0, 3] (fun y o wr => ∃ (x : Int) (s : ByteArray), y = .int .i64 x ∧ o = .string s ∧ 0 ≤ x ∧ x + s.size ≤ 1000000000001 ∧ Below w.heap.size w wr) (fun y _ _ => (intOf y).toNat)
    case atStart => exact ⟨k, _, rfl, rfl, h0, by show k + ((0 : Nat) : Int) ≤ _; omega, Below.refl _ _⟩
    case round =>
      clear hk h0 h1
      obtain ⟨x, s, rfl, rfl, hx, hs, hB⟩ := hrel
      have hq := hB.size
      by_cases hp : 0 < x
      · obtain ⟨d, hd⟩ : ∃ d, Int.tmod x 10 = d := ⟨_, rfl⟩
        obtain ⟨e, he⟩ : ∃ e, Int.tdiv x 10 = e := ⟨_, rfl⟩
        have hd1 : 0 ≤ d ∧ d < 10 := by rw [← hd, Int.tmod_eq_emod_of_nonneg hx]; omega
        have he1 : 0 ≤ e ∧ e + 1 ≤ x ∧ e < x := by rw [← he, Int.tdiv_eq_ediv_of_nonneg hx]; omega
        have hw8 : IntKind.u8.wrap (48 + d) = 48 + d := by
          unfold IntKind.wrap
          simp [IntKind.signed, IntKind.bits]
          omega
        obtain ⟨t, ht⟩ : ∃ t, strOfNums [48 + d] = t := ⟨_, rfl⟩
        have hts : t.size = 1 := by rw [← ht]; rfl
        have hcell : ∀ i, i < 1 → (wr.alloc (Obj.cells #[.int .u8 (48 + d)] 5)).cell? ⟨wr.heap.size, 0 + i, none⟩ = some (.int .u8 ([48 + d].getD i 0)) := fun i hi => by
          obtain rfl : i = 0 := by omega
          go_cell
        have hconv := run_convert_bytes_arg (P := Try.prog) (wr.alloc (Obj.cells #[.int .u8 (48 + d)] 5)) 40 5 Try.underlying40 Try.underlying5 wr.heap.size 0 1 1 [48 + d] rfl hcell 9 Try.underlying9
        clear hcell
        rw [ht] at hconv
        have hsz : ¬ (9223372036854775807 : Int) < ((t.size + s.size : Nat) : Int) := by rw [hts]; omega
        go_wp2
        go_roundw
        case rel => exact ⟨e, t ++ s, rfl, rfl, he1.1, by rw [ByteArray.size_append, hts]; omega, Below.alloc hB hq _⟩
        case measure => simp [intOf]; omega
      · go_wp2
        go_ret
        exact ⟨⟨_, rfl⟩, hB⟩

set_option maxHeartbeats 2000000 in
theorem laws_markWorkerS {lo hi : Nat} {I : Nat → ByteArray} (a : Option Addr) (n c : Nat) (V : Nat → Value) (k : Int) (w : World) (hz : OwnIn lo hi w a (3 * n) V) (hn' : szW I n ≤ 1048576) (h0 : 0 ≤ k) (h1 : k ≤ 1000000000) :
    Calls Try.prog 12 #[.slice a n c, .int .i64 k] w fun e w' => e = .returned (.int .i64 (k + 3 * n)) ∧ (∃ V', OwnIn lo hi w' a (3 * n) V') ∧ Keep lo hi w w' := by
  have hn := szW_n hn'
  clear hn'
  go_enter Try.func12, Try.ntmps12
  go_wp2
  go_loopw [1, 5] (fun x i wr => ∃ m : Nat, m ≤ n ∧ i = .int .i64 m ∧ x = .int .i64 (k + 3 * m) ∧ (∃ V', OwnIn lo hi wr a (3 * n) V') ∧ Keep lo hi w wr) (fun _ i _ => n - (intOf i).toNat)
  case atStart => exact ⟨0, by omega, rfl, by simp, ⟨V, hz⟩, Keep.refl _ _ _⟩
  case round =>
    clear hz V
    obtain ⟨m, hm, rfl, rfl, ⟨V, hO⟩, hG⟩ := hrel
    by_cases hlt : m < n
    · have hO2 := hO
      obtain ⟨g, rfl, hB1, hB2, hl, hc⟩ := hO (by omega)
      obtain ⟨c0, f0⟩ := hc (m * 3) (by omega)
      obtain ⟨c1, f1⟩ := hc (m * 3 + 1) (by omega)
      obtain ⟨c2, f2⟩ := hc (m * 3 + 2) (by omega)
      have km := fun W => laws_markText (k + 3 * m) W (by omega) (by omega)
      clear hc hO
      go_wp2_with (go_at_call 41; (with_reducible refine (km _).mono ?_); rintro e w1 ⟨⟨s, rfl⟩, hb⟩; replace c0 := (hb.cell (p := ⟨g, m * 3, none⟩) hl).trans c0; replace c1 := (hb.cell (p := ⟨g, m * 3 + 1, none⟩) hl).trans c1; replace c2 := (hb.cell (p := ⟨g, m * 3 + 2, none⟩) hl).trans c2; replace f0 := (hb.frozen (p := ⟨g, m * 3, none⟩) hl).trans f0; replace f1 := (hb.frozen (p := ⟨g, m * 3 + 1, none⟩) hl).trans f1; replace f2 := (hb.frozen (p := ⟨g, m * 3 + 2, none⟩) hl).trans f2; replace hO2 := hO2.below hb; replace hG := hG.trans (Keep.of_below hb); replace hl := Nat.lt_of_lt_of_le hl hb.size; clear hb)
      go_roundw
      case rel => exact ⟨m + 1, by omega, by go_num, by (try dsimp only); congr 1; omega, ⟨_, OwnIn.set (OwnIn.set (OwnIn.set hO2 (show m * 3 < 3 * n by omega) _) (show m * 3 + 1 < 3 * n by omega) _) (show m * 3 + 2 < 3 * n by omega) _⟩, ((hG.set hB1 hB2).set hB1 hB2).set hB1 hB2⟩
      case measure => simp [intOf]; omega
    · obtain rfl : m = n := by omega
      go_wp2
      go_ret
      exact ⟨rfl, ⟨V, hO⟩, hG⟩

end Go.Proofs.Ytngeaojimehlbaa
