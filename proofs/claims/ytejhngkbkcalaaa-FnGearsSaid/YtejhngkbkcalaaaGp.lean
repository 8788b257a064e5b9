/-
  Contracts: lowered peaks.
-/
import Derived.Test.YtejhngkbkcalaaaMc
import Derived.Test.YtejhngkbkcalaaaDl
namespace Go.Proofs.Ytejhngkbkcalaaa
open Go.RowKit
set_option linter.unusedVariables false
set_option linter.unusedSimpArgs false

def valsG (Z : Nat → Int) (k : Nat) : List Int := (List.range k).map Z
theorem valsG_len (Z : Nat → Int) (k : Nat) : (valsG Z k).length = k := by simp [valsG]
theorem valsG_next (Z : Nat → Int) (k : Nat) : valsG Z (k + 1) = valsG Z k ++ [Z k] := by simp [valsG, List.range_succ]
theorem valsG_at {Z : Nat → Int} {j k : Nat} (h : j < k) : (valsG Z k).getD j 0 = Z j := by simp [valsG, h]
theorem AppOf.valsG {B : Nat} {w : World} {v : Value} {Z : Nat → Int} {n : Nat} (h : AppOf B w v (valsG Z n)) : ∃ a c, v = .slice a n c ∧ IntsAt w a n Z := by
  obtain ⟨a, c, rfl, _, _, ho⟩ := h.outc
  rw [valsG_len] at *
  refine ⟨a, c, rfl, fun hn => ?_⟩
  obtain ⟨b, o, e, hb, hc⟩ := ho.ints hn
  exact ⟨b, o, e, hb, fun j hj => by rw [hc j hj]; dsimp only; rw [valsG_at hj]⟩
/-- What PeakFree returns. -/
def PeakRes (F : Nat → Int) (n : Nat) (t : Int) (W : World) (e : Ending) : Prop :=
  ∃ aO m cO, e = .returned (.tuple #[.slice aO m cO, .int .i64 (peakE F n t)]) ∧ (peakE F n t = 0 → m = peakF F n t ∧ IntsAt W aO m (lowV F n t))

set_option maxHeartbeats 4000000 in
set_option maxRecDepth 100000 in
theorem impl_PeakFree (a : Option Addr) (n c : Nat) (F : Nat → Int) (t : Int) (w : World) (hz : IntsAt w a n F) (hn : n ≤ 1048576) :
    Calls Try.prog 13 #[.slice a n c, .int .i64 t] w fun e w' => PeakRes F n t w' e ∧ Below w.heap.size w w' := by
  have ka := fun W h => impl_areForces a n c F W h hn
  have kt := fun W => impl_within t 1 1000000 W
  have kc := fun W h => impl_PeakFree_1_contains a n c F W h hn
  cases hok : peakOk F n t
  · have e1 : peakE F n t = 2 := by unfold peakE; rw [hok]; rfl
    have HF := Lib.hid e1
    clear e1
    unfold peakOk at hok
    generalize forcesOk F n = A at *
    generalize any (fun j => decide (F j < 0)) n = N at *
    cases hb : inB t 1 1000000 <;> cases A <;> cases N <;> rw [hb] at kt <;> simp [hb] at hok
    all_goals
      go_enter Try.func13, Try.ntmps13
      go_wp2_with (first | (go_at_call 40; (with_reducible refine (ka _ hz).mono ?_); rintro e w' ⟨rfl, rfl⟩) | (go_at_call 25; (with_reducible refine (kt _).mono ?_); rintro e w' ⟨rfl, rfl⟩) | (go_at_call 41; (with_reducible refine (kc _ hz).mono ?_); rintro e w' ⟨rfl, rfl⟩))
      go_returns
      exact ⟨⟨none, 0, 0, by rw [HF.out]; rfl, fun h => by rw [HF.out] at h; exact absurd h (by decide)⟩, Below.refl _ _⟩
  · have HE := Lib.hid (show peakE F n t = if peakF F n t < 61 then 0 else 5 by unfold peakE; rw [hok, if_pos rfl])
    have HB := Lib.hid (car_bd hok)
    obtain ⟨n60, t1, t2, _⟩ := peak_bd hok
    unfold peakOk at hok
    rw [Bool.and_eq_true, Bool.and_eq_true] at hok
    obtain ⟨⟨h1, h2⟩, h3⟩ := hok
    rw [h1] at ka
    rw [h2] at kt
    have h4 : any (fun j => decide (F j < 0)) n = false := by simpa using h3
    rw [h4] at kc
    clear h1 h2 h3 h4
    go_enter Try.func13, Try.ntmps13
    go_wp2_with (first | (go_at_call 40; (with_reducible refine (ka _ hz).mono ?_); rintro e w' ⟨rfl, rfl⟩) | (go_at_call 25; (with_reducible refine (kt _).mono ?_); rintro e w' ⟨rfl, rfl⟩) | (go_at_call 41; (with_reducible refine (kc _ hz).mono ?_); rintro e w' ⟨rfl, rfl⟩))
    clear ka kt kc
    go_loopw [6, 7, 8] (fun u x i wr => ∃ k : Nat, k ≤ 60 ∧ i = .int .i64 (k : Int) ∧ x = .int .i64 (carV F n t k) ∧ AppOf w.heap.size wr u (valsG (lowV F n t) k) ∧ fst (peakQ F n t) k = k ∧ Below w.heap.size w wr) (fun _ _ i _ => 61 - (intOf i).toNat)
    case atStart => exact ⟨0, by omega, rfl, rfl, AppOf.nil _ _, rfl, Below.refl _ _⟩
    case round => as_aux_lemma =>
      obtain ⟨k, hk, rfl, rfl, hA, hr, hB⟩ := hrel
      obtain ⟨⟨c0, c1⟩, ⟨l0, l1⟩, f0, f1⟩ := HB.out k
      have hqk0 : peakQ F n t k = (decide (n ≤ k) && decide (carV F n t k ≤ 0)) := rfl
      cases hqk : peakQ F n t k
      · have HM := Lib.hid (fst_miss hr hqk)
        have hnot : n ≤ k → 0 < carV F n t k := fun h => by
          rw [hqk0, decide_eq_true h, Bool.true_and] at hqk
          have := of_decide_eq_false hqk
          omega
        clear hqk0 hqk hr
        by_cases h60 : k = 60
        · subst h60
          have e1 : peakE F n t = 5 := by
            rw [HE.out, if_neg]
            have h61 : fst (peakQ F n t) 61 = 61 := HM.out
            unfold peakF
            omega
          have HF := Lib.hid e1
          clear e1 HM HE HB
          by_cases hkn : 60 < n
          · omega
          · have hkn' : ¬ (60 : Int) < (n : Int) := by omega
            have hc0 := hnot (by omega)
            generalize carV F n t 60 = C at *
            go_wp2
            refine bodyPost_ret (by simp [results, Try.results13, go_sem, *]; try rfl) rfl ?_
            exact ⟨⟨none, 0, 0, by rw [HF.out], fun h => by rw [HF.out] at h; exact absurd h (by decide)⟩, hB⟩
        · have k60 : ¬ (60 : Int) ≤ (k : Int) := by omega
          have HC := Lib.hid (carV_succ F n t k)
          have HV := Lib.hid (valsG_next (lowV F n t) k)
          have hl := valsG_len (lowV F n t) k
          have s3 := hB.size
          by_cases hkn : k < n
          · have hkn' : (k : Int) < (n : Int) := by omega
            have hfa : fAt F n k = F k := by unfold fAt; rw [if_pos hkn]
            have hlo : lowV F n t k = min (carV F n t k + F k) t := by unfold lowV; rw [hfa]
            have HL := Lib.hid hlo
            rw [hfa] at f0 f1 HC
            obtain ⟨b, o, ea, hb, hcz⟩ := id hz (by omega)
            subst ea
            have ck := (hB.cell (p := ⟨b, o + k, none⟩) hb).trans (hcz k hkn)
            clear hfa hcz HE HB hnot
            by_cases hx : carV F n t k + F k ≤ t
            · have hlv : lowV F n t k = carV F n t k + F k := by rw [hlo]; omega
              rw [hlv] at HC HV
              clear hlo HL hlv l0 l1
              generalize valsG (lowV F n t) k = L at *
              generalize carV F n t k = C at *
              generalize F k = fk at *
              go_wp2_with (at_builtin; refine app_int _ rfl _ _ rfl w.heap.size _ L rfl (hA.alloc _) wr.heap.size 1 (C + fk) rfl (by go_cell) (by omega) (by simp; omega) ?_; intro v' w4 hA4 hw4)
              go_roundw
              case rel => exact ⟨k + 1, by omega, by go_num, by rw [HC.out] <;> (congr 1; (try split) <;> omega), by rw [HV.out]; exact hA4, HM.out, (hB.alloc hB.size _).trans (hw4.mono (by first | omega | (simp; done) | (simp; omega)))⟩
              case measure => simp [intOf]; omega
            · have hlv : lowV F n t k = t := by rw [hlo]; omega
              rw [hlv] at HC HV
              clear hlo HL hlv l0 l1
              generalize valsG (lowV F n t) k = L at *
              generalize carV F n t k = C at *
              generalize F k = fk at *
              go_wp2_with (at_builtin; refine app_int _ rfl _ _ rfl w.heap.size _ L rfl (hA.alloc _) wr.heap.size 1 t rfl (by go_cell) (by omega) (by simp; omega) ?_; intro v' w4 hA4 hw4)
              go_roundw
              case rel => exact ⟨k + 1, by omega, by go_num, by rw [HC.out] <;> (congr 1; (try split) <;> omega), by rw [HV.out]; exact hA4, HM.out, (hB.alloc hB.size _).trans (hw4.mono (by first | omega | (simp; done) | (simp; omega)))⟩
              case measure => simp [intOf]; omega
          · have hkn' : ¬ (k : Int) < (n : Int) := by omega
            have hc0 := hnot (by omega)
            have hfa : fAt F n k = 0 := by unfold fAt; rw [if_neg hkn]
            have hlo : lowV F n t k = min (carV F n t k + 0) t := by unfold lowV; rw [hfa]
            rw [hfa] at HC
            clear hfa HE HB hnot
            by_cases hx : carV F n t k ≤ t
            · have hlv : lowV F n t k = carV F n t k := by rw [hlo]; omega
              rw [hlv] at HC HV
              clear hlo hlv l0 l1
              generalize valsG (lowV F n t) k = L at *
              generalize carV F n t k = C at *
              go_wp2_with (at_builtin; refine app_int _ rfl _ _ rfl w.heap.size _ L rfl (hA.alloc _) wr.heap.size 1 C rfl (by go_cell) (by omega) (by simp; omega) ?_; intro v' w4 hA4 hw4)
              go_roundw
              case rel => exact ⟨k + 1, by omega, by go_num, by rw [HC.out] <;> (congr 1; (try split) <;> omega), by rw [HV.out]; exact hA4, HM.out, (hB.alloc hB.size _).trans (hw4.mono (by first | omega | (simp; done) | (simp; omega)))⟩
              case measure => simp [intOf]; omega
            · have hlv : lowV F n t k = t := by rw [hlo]; omega
              rw [hlv] at HC HV
              clear hlo hlv l0 l1
              generalize valsG (lowV F n t) k = L at *
              generalize carV F n t k = C at *
              go_wp2_with (at_builtin; refine app_int _ rfl _ _ rfl w.heap.size _ L rfl (hA.alloc _) wr.heap.size 1 t rfl (by go_cell) (by omega) (by simp; omega) ?_; intro v' w4 hA4 hw4)
              go_roundw
              case rel => exact ⟨k + 1, by omega, by go_num, by rw [HC.out] <;> (congr 1; (try split) <;> omega), by rw [HV.out]; exact hA4, HM.out, (hB.alloc hB.size _).trans (hw4.mono (by first | omega | (simp; done) | (simp; omega)))⟩
              case measure => simp [intOf]; omega
      · have hpf : peakF F n t = k := fst_hit hr hqk (by omega)
        have e1 : peakE F n t = 0 := by rw [HE.out, hpf, if_pos (by omega)]
        rw [hqk0, Bool.and_eq_true, decide_eq_true_eq, decide_eq_true_eq] at hqk
        obtain ⟨g1, g2⟩ := hqk
        obtain ⟨aO, cO, rfl, hI⟩ := hA.valsG
        have HF := Lib.hid (And.intro e1 hpf)
        have hkn' : ¬ (k : Int) < (n : Int) := by omega
        have hc0 : ¬ 0 < carV F n t k := by omega
        clear e1 hpf hqk0 hr hA HE HB
        generalize carV F n t k = C at *
        go_wp2
        refine bodyPost_ret (by simp [results, Try.results13, go_sem, *]; try rfl) rfl ?_
        exact ⟨⟨aO, k, cO, by rw [HF.out.1], fun _ => ⟨HF.out.2.symm, hI⟩⟩, hB⟩

end Go.Proofs.Ytejhngkbkcalaaa
