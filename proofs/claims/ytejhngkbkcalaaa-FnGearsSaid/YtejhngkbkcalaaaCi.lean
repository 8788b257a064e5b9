/-
  Contracts: rides given to the cheapest hours: the walk.
-/
import Derived.Test.YtejhngkbkcalaaaCh
namespace Go.Proofs.Ytejhngkbkcalaaa
open Go.RowKit
set_option linter.unusedVariables false
set_option linter.unusedSimpArgs false


def badH (P : Nat → Int) (n : Nat) (r t : Int) : Bool := decide (60 < n) || any (fun j => !inB (P j) 0 10000) n || !inB r 0 1000 || !inB t 1 1000
theorem hrs_next (r e : Int) (O : Nat → Nat) (k j : Nat) : hrsV r e O (k + 1) j = if j = O k then givV r e k else hrsV r e O k j := rfl
theorem cost_next (r e : Int) (O : Nat → Nat) (P : Nat → Int) (k : Nat) : costV r e O P (k + 1) = costV r e O P k + givV r e k * P (O k) := rfl
set_option maxHeartbeats 8000000 in
set_option maxRecDepth 100000 in
theorem impl_CheapestHours (aP : Option Addr) (n cP : Nat) (P : Nat → Int) (r t : Int) (w : World) (hz : IntsAt w aP n P) (hn : n ≤ 61) (hc : n ≤ 10 ∨ ∀ j, j < n → P j = 0) :
    Calls Try.prog 16 #[.slice aP n cP, .int .i64 r, .int .i64 t] w fun e w' => HoursRes P n r t w' e ∧ Below w.heap.size w w' := by
  have kc := fun W h => impl_CheapestHours_1_contains aP n cP P W h (by omega)
  have ks := fun W => impl_isShare r W
  have kt := fun W => impl_within t 1 1000 W
  have kz := fun W => impl_size_h aP n cP W
  have HB := Lib.hid (show badH P n r t = (decide (60 < n) || any (fun j => !inB (P j) 0 10000) n || !inB r 0 1000 || !inB t 1 1000) from rfl)
  have hdec : decide ((60 : Int) < (n : Int)) = decide (60 < n) := by congr 1; exact propext (by omega)
  have HZ := Lib.hid hz
  go_enter Try.func16, Try.ntmps16
  have bA : Below w.heap.size w (w.alloc (Obj.cells #[.slice aP n cP] 26)) := Below.alloc (Below.refl _ _) (Nat.le_refl _) _
  have x0 : (w.alloc (Obj.cells #[.slice aP n cP] 26)).cell? ⟨w.heap.size, 0, none⟩ = some (.slice aP n cP) := by go_cell
  have lX0 : w.heap.size < (w.alloc (Obj.cells #[.slice aP n cP] 26)).heap.size := by simp
  go_upto_region 1 with fail
  replace hz := hz.below bA
  generalize w.alloc (Obj.cells #[.slice aP n cP] 26) = w0 at *
  generalize hX : w.heap.size = X at *
  go_cut [31] (fun u W => W = w0 ∧ u = .bool (badH P n r t))
  case first => as_aux_lemma =>
    clear HZ
    generalize any (fun j => !inB (P j) 0 10000) n = A at *
    generalize inB r 0 1000 = R at *
    generalize inB t 1 1000 = T at *
    by_cases h60 : 60 < n
    · have h1 : (60 : Int) < (n : Int) := by omega
      rw [decide_eq_true h60] at HB
      cases A <;> cases R <;> cases T
      all_goals
        go_wp2_with (first | (go_at_call 41; (with_reducible refine (kc _ hz).mono ?_); rintro e w' ⟨rfl, rfl⟩) | (go_at_call 44; (with_reducible refine (ks _).mono ?_); rintro e w' ⟨rfl, rfl⟩) | (go_at_call 25; (with_reducible refine (kt _).mono ?_); rintro e w' ⟨rfl, rfl⟩))
        go_meet
        exact ⟨rfl, by rw [HB.out]; rfl⟩
    · have h1 : ¬ (60 : Int) < (n : Int) := by omega
      rw [decide_eq_false h60] at HB
      cases A <;> cases R <;> cases T
      all_goals
        go_wp2_with (first | (go_at_call 41; (with_reducible refine (kc _ hz).mono ?_); rintro e w' ⟨rfl, rfl⟩) | (go_at_call 44; (with_reducible refine (ks _).mono ?_); rintro e w' ⟨rfl, rfl⟩) | (go_at_call 25; (with_reducible refine (kt _).mono ?_); rintro e w' ⟨rfl, rfl⟩))
        go_meet
        exact ⟨rfl, by rw [HB.out]; rfl⟩
  case rest => as_aux_lemma =>
    obtain ⟨rfl, rfl⟩ := hcut
    clear kc ks kt
    cases hb : badH P n r t
    · rw [HB.out] at hb
      simp only [Bool.or_eq_false_iff, decide_eq_false_iff_not, Bool.not_eq_false'] at hb
      obtain ⟨⟨⟨n60, hany⟩, hr⟩, ht⟩ := hb
      obtain ⟨r0, r1⟩ := inB_true.1 hr
      obtain ⟨t1, t2⟩ := inB_true.1 ht
      have hp : ∀ j, j < n → 0 ≤ P j ∧ P j ≤ 10000 := fun j hj => by
        have := any_false.1 hany j hj
        exact inB_true.1 (by simpa using this)
      clear hany hr ht HB
      have mb := mul_bd (x := t) (a := 1000) (y := (n : Int)) (b := 60) (by omega) t2 (by omega) (by omega)
      by_cases hfull : t * (n : Int) < r
      · clear hp hc HZ hz
        go_wp2_with (go_at_call 45; (with_reducible refine (kz _).mono ?_); rintro e w' ⟨rfl, rfl⟩)
        refine bodyPost_ret (by simp [results, Try.results16, go_sem, *]; try rfl) rfl ?_
        exact ⟨⟨none, 0, 0, 0, 5, rfl, Or.inl ⟨by decide, rfl, rfl⟩⟩, by rw [hX]; exact bA⟩
      · have hfit : r ≤ t * (n : Int) := by omega
        have HPB := Lib.hid hp
        have HCC := Lib.hid hc
        clear hp hc
        go_wp2_with (go_at_call 45; (with_reducible refine (kz _).mono ?_); rintro e w' ⟨rfl, rfl⟩)
        clear kz mb
        go_loopw [9, 40] (fun u i wr => ∃ k : Nat, k ≤ n ∧ i = .int .i64 (k : Int) ∧ (k = 0 → u = .slice none 0 0) ∧ NumOf wc.heap.size wr u (idsL k) ∧ Below wc.heap.size wc wr) (fun _ i _ => n - (intOf i).toNat)
        case atStart => exact ⟨0, by omega, rfl, fun _ => rfl, NumOf.nil _ _, Below.refl _ _⟩
        case round => as_aux_lemma =>
          obtain ⟨k, hk, rfl, hnil, hN, hB⟩ := hrel
          have sB := hB.size
          by_cases hlt : k < n
          · have k0 : (k : Int) < (n : Int) := by omega
            have hl := idsL_len k
            have HN := Lib.hid (idsL_next k)
            clear hnil
            generalize idsL k = L at *
            go_wp2_with (at_builtin; refine app_num _ rfl _ _ rfl wc.heap.size _ L rfl (hN.alloc _) wr.heap.size 1 (k : Int) rfl (by go_cell) (by omega) (by simp; omega) ?_; intro v' w4 hN4 hw4)
            go_roundw
            case rel => exact ⟨k + 1, by omega, by go_num, fun h => absurd h (by omega), by rw [HN.out]; exact hN4, (hB.alloc (by omega) _).trans (hw4.mono (by first | omega | (simp; done) | (simp; omega)))⟩
            case measure => simp [intOf]; omega
          · obtain rfl : k = n := by omega
            have hx : wr.cell? ⟨X, 0, none⟩ = some (.slice aP k cP) := (hB.cell (p := ⟨X, 0, none⟩) lX0).trans x0
            have hmk := fun W => run_make_row' (P := Try.prog) 26 2 (.int .i64 0) 8 Try.underlying26 int64_parts rfl .i64 .i64 k (by omega) (by omega) W
            by_cases h0 : k = 0
            · have hnil2 := hnil h0
              subst hnil2
              have H0 := Lib.hid h0
              clear h0 hnil
              go_wp2_with fail
              refine (sort_nilF _ _).mono ?_
              rintro e w1 ⟨rfl, rfl⟩
              have hBz := hB.alloc sB (Obj.cells (madeCells #[.int .i64 0] k) 2)
              go_wp2_with fail
              go_loopw [1, 12, 56] (fun rr ss i w3 => rr = .int .i64 r ∧ ss = .int .i64 0 ∧ i = .int .i64 0 ∧ Below wc.heap.size wc w3) (fun _ _ _ _ => 0)
              case atStart => exact ⟨rfl, rfl, rfl, hBz⟩
              case round =>
                clear hBz
                obtain ⟨rfl, rfl, rfl, hB3⟩ := hrel
                go_wp2_with fail
                refine bodyPost_ret (by simp [results, Try.results16, go_sem, *]; try rfl) rfl ?_
                have h0 := H0.out
                exact ⟨⟨_, k, _, 0, 0, rfl, Or.inr ⟨rfl, rfl, by omega, ⟨r0, r1⟩, ⟨t1, t2⟩, hfit, HPB.out, fun i => i, OrderOf.id k, fun i j h1 h2 => absurd h2 (by omega), fun h => absurd h (by omega), by rw [h0]; rfl⟩⟩, by rw [hX]; exact bA.trans (hB3.mono (by omega))⟩
            · obtain ⟨aO, cO, rfl, hO⟩ := hN.out
              rw [idsL_len] at hO ⊢
              obtain ⟨g, rfl, g1, g2, g3, hcc⟩ := hO (by omega)
              have hOrd : OrdAt wr g k (fun i => i) := fun _ => ⟨g, rfl, Nat.le_refl _, Nat.lt_succ_self _, g3, fun j hj => by have := hcc j hj; dsimp only at this; rw [idsL_at hj] at this; exact this⟩
              have hPg : 0 < k → ∀ b o, aP = some ⟨b, o, none⟩ → b ≠ g := fun h b o e => by
                obtain ⟨b', o', e', hb', _⟩ := HZ.out h
                rw [e'] at e
                injection e with e
                injection e with e1 e2
                omega
              have kso := sort_stableF g k cO (fun i => i) P X aP cP _ hOrd (OrderOf.id k) hx (by omega) (by omega) (hz.below hB) hPg (by omega) g3 (by
                rcases HCC.out with h | h
                · exact Or.inl (by omega)
                · exact Or.inr (fun i j hi hj => by rw [h i hi, h j hj]))
              clear hnil hN hO hcc hOrd
              go_wp2_with fail
              refine kso.mono ?_
              rintro e w1 ⟨rfl, ⟨O, ho, hs, hO1⟩, hK⟩
              have hB1 := hB.trans (hK.below (by omega) (by omega))
              have s1 := hB1.size
              have hx1 : w1.cell? ⟨X, 0, none⟩ = some (.slice aP k cP) := (hB1.cell (p := ⟨X, 0, none⟩) lX0).trans x0
              have HOR := Lib.hid (And.intro ho hs)
              have gl := (hO1.at (show 0 < k by omega)).2.2
              clear kso hx hB hK sB ho hs
              have bM : Below w1.heap.size w1 (w1.alloc (Obj.cells (madeCells #[.int .i64 0] k) 2)) := Below.alloc (Below.refl _ _) (Nat.le_refl _) _
              have OZ := own_zero w1 k 2
              have hO2 := hO1.below bM
              have hB2 := hB1.trans (bM.mono s1)
              go_upto_region 13 with fail
              clear hx1 hO1 hB1 bM hmk
              generalize w1.alloc (Obj.cells (madeCells #[.int .i64 0] k) 2) = w2 at *
              generalize w1.heap.size = H at *
              go_wp2_with fail
              go_loopw [1, 12, 56] (fun rr ss i w3 => ∃ q : Nat, q ≤ k ∧ i = .int .i64 (q : Int) ∧ rr = .int .i64 (remV r t q) ∧ ss = .int .i64 (costV r t O P q) ∧ OwnIn H (H + 1) w3 (some ⟨H, 0, none⟩) k (fun j => .int .i64 (hrsV r t O q j)) ∧ OrdAt w3 g k O ∧ Below wc.heap.size wc w3) (fun _ _ i _ => k - (intOf i).toNat)
              case atStart => exact ⟨0, by omega, rfl, rfl, rfl, OZ, hO2, hB2⟩
              case round => as_aux_lemma =>
                clear OZ hO2 hB2
                obtain ⟨q, hq, rfl, rfl, rfl, hOw, hO3, hB3⟩ := hrel
                have s3 := hB3.size
                by_cases hlt2 : q < k
                · have q0 : (q : Int) < (k : Int) := by omega
                  obtain ⟨c1, _, lg⟩ := hO3.at hlt2
                  have hk1 := HOR.out.1.lt q hlt2
                  have lH := OwnIn.block hOw (by omega)
                  have cH : wr.cell? ⟨H, O q, none⟩ = some (.int .i64 (hrsV r t O q (O q))) := hOw.at hk1
                  have fH : wr.frozen? ⟨H, O q, none⟩ = false := by
                    obtain ⟨b', e, _, _, _, hc'⟩ := hOw (by omega)
                    injection e with e; injection e with e
                    subst e
                    exact (hc' _ hk1).2
                  obtain ⟨b, o, eP, lb, hcP⟩ := id hz (by omega)
                  have cp0 := hcP _ hk1
                  have hbX : b < X := by
                    obtain ⟨b', o', e', hb', _⟩ := HZ.out (show 0 < k by omega)
                    rw [e'] at eP
                    injection eP with e
                    injection e with e1 e2
                    omega
                  subst eP
                  obtain ⟨m0, m1, m2, _⟩ := rem_bd r0 t1 q
                  obtain ⟨u0, u1⟩ := cost_bd r0 t1 t2 HOR.out.1 HPB.out q (by omega)
                  obtain ⟨p0, p1⟩ := HPB.out _ hk1
                  have HR := Lib.hid (remV_succ r t q)
                  have HCN := Lib.hid (cost_next r t O P q)
                  have HHN := Lib.hid (fun j => hrs_next r t O q j)
                  have hgv : givV r t q = min (remV r t q) t := rfl
                  have hg0 : 0 ≤ givV r t q ∧ givV r t q ≤ 1000 := by rw [hgv]; omega
                  have mb := mul_bd hg0.1 hg0.2 p0 p1
                  have hOw2 := hOw.set hk1 (.int .i64 (givV r t q))
                  have hO4 : OrdAt (wr.setCell ⟨H, O q, none⟩ (.int .i64 (givV r t q))) g k O := OwnIn.keep hO3 ((Keep.refl H (H + 1) wr).set (Nat.le_refl _) (Nat.lt_succ_self _)) (by omega)
                  have hB4 := below_set (u := .int .i64 (givV r t q)) (o := O q) hB3 (show wc.heap.size ≤ H by omega)
                  have n0 : ((O q : Nat) : Int) < (k : Int) := by omega
                  have xw : wr.cell? ⟨X, 0, none⟩ = some (.slice (some ⟨b, o, none⟩) k cP) := (hB3.cell (p := ⟨X, 0, none⟩) lX0).trans x0
                  have cp1 : wr.cell? ⟨b, o + O q, none⟩ = some (.int .i64 (P (O q))) := (hB3.cell (p := ⟨b, o + O q, none⟩) lb).trans cp0
                  clear hcP cp0 hO3 hB3
                  have hcase : (remV r t q ≤ t ∧ givV r t q = remV r t q) ∨ (¬ remV r t q ≤ t ∧ givV r t q = t) := by rw [hgv]; omega
                  clear hgv
                  generalize remV r t q = RM at *
                  generalize costV r t O P q = CS at *
                  generalize hrsV r t O q (O q) = h0v at *
                  generalize hGV : givV r t q = GV at *
                  generalize hPK : P (O q) = pk at *
                  generalize hKK : O q = kk at *
                  have HKK := Lib.hid hKK
                  have hBt := hB4
                  clear hKK hPK hGV
                  rcases hcase with ⟨h5, h6⟩ | ⟨h5, h6⟩
                  all_goals
                    subst h6
                    go_upto_region 19 with fail
                    have c5 : (wr.setCell ⟨H, kk, none⟩ (.int .i64 GV)).cell? ⟨H, kk, none⟩ = some (.int .i64 GV) := cell_same cH
                    have cp5 : (wr.setCell ⟨H, kk, none⟩ (.int .i64 GV)).cell? ⟨b, o + kk, none⟩ = some (.int .i64 pk) := cell_far cp1 (by omega)
                    have x5 : (wr.setCell ⟨H, kk, none⟩ (.int .i64 GV)).cell? ⟨X, 0, none⟩ = some (.slice (some ⟨b, o, none⟩) k cP) := cell_far xw (by omega)
                    have l1 : H < (wr.setCell ⟨H, kk, none⟩ (.int .i64 GV)).heap.size := lt_set lH
                    have l2 : b < (wr.setCell ⟨H, kk, none⟩ (.int .i64 GV)).heap.size := lt_set (by omega)
                    have l3 : X < (wr.setCell ⟨H, kk, none⟩ (.int .i64 GV)).heap.size := lt_set (by omega)
                    clear c1 cH fH xw cp1 lg lH
                    generalize wr.setCell ⟨H, kk, none⟩ (.int .i64 GV) = w5 at *
                    have hB := Below.refl w5.heap.size w5
                    (refine wp_region_cls (by kernel_rfl) (by kernel_rfl) ?_; (repeat (go_big_quiet_step (fail))); refine wpQuiet_nil ?_; rintro _ ⟨u, rfl⟩; have hb := u.below; replace hB := hB.trans (hb.mono hB.size); generalize u.w = w' at *; obtain ⟨hc, hf, hs⟩ := bkeep hb; have hq' := hb.size; have hq := hB.size; have hb' := hb; clear hb)
                    clear c5 cp5 x5 l1 l2 l3 hc hf hs hq' hB
                    have hOw5 := hOw2.below hb'
                    have hO5 := hO4.below hb'
                    have hB5 := hB4.trans (hb'.mono hB4.size)
                    go_wp2
                    go_roundw
                    case rel => exact ⟨q + 1, by omega, by go_num, by rw [HR.out] <;> first | rfl | (congr 1; omega), by rw [HCN.out] <;> first | rfl | (congr 1; omega), OwnIn.cong hOw5 (fun p hp => by have := HHN.out p; by_cases h9 : p = kk <;> simp [h9] at this ⊢ <;> simp [this]), hO5, hB5⟩
                    case measure => simp [intOf]; omega
                · obtain rfl : q = k := by omega
                  go_wp2
                  refine bodyPost_ret (by simp [results, Try.results16, go_sem, *]; try rfl) rfl ?_
                  exact ⟨⟨some ⟨H, 0, none⟩, q, _, _, 0, rfl, Or.inr ⟨rfl, rfl, by omega, ⟨r0, r1⟩, ⟨t1, t2⟩, hfit, HPB.out, O, HOR.out.1, HOR.out.2, hOw.ints, rfl⟩⟩, by rw [hX]; exact bA.trans (hB3.mono (by omega))⟩
    · clear HB HZ hz hc
      go_wp2_with fail
      refine bodyPost_ret (by simp [results, Try.results16, go_sem, *]; try rfl) rfl ?_
      exact ⟨⟨none, 0, 0, 0, 2, rfl, Or.inl ⟨by decide, rfl, rfl⟩⟩, by rw [hX]; exact bA⟩

end Go.Proofs.Ytejhngkbkcalaaa
