/-
  Contracts: the stable sort of an order by prices: the comparison, insertion sort.
-/
import Derived.Test.YtejhngkbkcalaaaPge
import Derived.Test.YtejhngkbkcalaaaBr
import Derived.Test.YtejhngkbkcalaaaMc
import Derived.Test.YtejhngkbkcalaaaHd
import Derived.LoopTactic
import Derived.Lib.Hide
import Derived.BigRegion
import Derived.Deep.DeepCutAuto
namespace Go.Proofs.Ytejhngkbkcalaaa
open Go.RowKit
set_option linter.unusedVariables false
set_option linter.unusedSimpArgs false

def cmpI (x y : Int) : Int := if x < y then -1 else if y < x then 1 else 0

theorem cmp_isNaN (x : Int) (w : World) : Calls Try.prog 59 #[.int .i64 x] w fun e w' => e = .returned (.bool false) ∧ w = w' := by
  go_enter Try.func59, Try.ntmps59
  go_wp2
  go_returns
  exact ⟨by simp, rfl⟩

theorem cmp_Compare (x y : Int) (w : World) : Calls Try.prog 48 #[.int .i64 x, .int .i64 y] w fun e w' => e = .returned (.int .i64 (cmpI x y)) ∧ w = w' := by
  have kx := fun W => cmp_isNaN x W
  have ky := fun W => cmp_isNaN y W
  by_cases h1 : x < y
  · have e1 : cmpI x y = -1 := by unfold cmpI; rw [if_pos h1]
    rw [e1]
    go_enter Try.func48, Try.ntmps48
    go_wp2_with (first | (go_at_call 59; (with_reducible refine (kx _).mono ?_); rintro e w' ⟨rfl, rfl⟩) | (go_at_call 59; (with_reducible refine (ky _).mono ?_); rintro e w' ⟨rfl, rfl⟩))
    go_returns
    exact ⟨rfl, rfl⟩
  · by_cases h2 : y < x
    · have e1 : cmpI x y = 1 := by unfold cmpI; rw [if_neg h1, if_pos h2]
      rw [e1]
      go_enter Try.func48, Try.ntmps48
      go_wp2_with (first | (go_at_call 59; (with_reducible refine (kx _).mono ?_); rintro e w' ⟨rfl, rfl⟩) | (go_at_call 59; (with_reducible refine (ky _).mono ?_); rintro e w' ⟨rfl, rfl⟩))
      go_returns
      exact ⟨rfl, rfl⟩
    · have e1 : cmpI x y = 0 := by unfold cmpI; rw [if_neg h1, if_neg h2]
      rw [e1]
      go_enter Try.func48, Try.ntmps48
      go_wp2_with (first | (go_at_call 59; (with_reducible refine (kx _).mono ?_); rintro e w' ⟨rfl, rfl⟩) | (go_at_call 59; (with_reducible refine (ky _).mono ?_); rintro e w' ⟨rfl, rfl⟩))
      go_returns
      exact ⟨rfl, rfl⟩

theorem impl_CheapestHours_2 (bx : Nat) (aP : Option Addr) (n cP : Nat) (P : Nat → Int) (i j : Nat) (w : World) (hx : w.cell? ⟨bx, 0, none⟩ = some (.slice aP n cP)) (hP : IntsAt w aP n P) (hi : i < n) (hj : j < n) (hn : n ≤ 1000) :
    Calls Try.prog 47 #[.int .i64 (i : Int), .int .i64 (j : Int), .pointer (some ⟨bx, 0, none⟩)] w fun e w' => e = .returned (.int .i64 (cmpI (P i) (P j))) ∧ Below w.heap.size w w' := by
  obtain ⟨b, o, rfl, hb, hc⟩ := hP (by omega)
  have ci := hc i hi
  have cj := hc j hj
  have i0 : (i : Int) < (n : Int) := by omega
  have j0 : (j : Int) < (n : Int) := by omega
  have lx : bx < w.heap.size := World.block_lt_of_cell? w _ hx
  have kc := fun W => cmp_Compare (P i) (P j) W
  generalize cmpI (P i) (P j) = C at *
  generalize P i = x at *
  generalize P j = y at *
  clear hc
  have hB := Below.refl w.heap.size w
  go_enter Try.func47, Try.ntmps47
  go_wp2
  (refine wp_region_cls (by kernel_rfl) (by kernel_rfl) ?_; (repeat (go_big_quiet_step ((go_at_call 48; with_reducible exact cls_S (kc _))))); refine wpQuiet_nil ?_; rintro _ ⟨u, rfl⟩; have hb := u.below; replace hB := hB.trans (hb.mono hB.size); generalize u.w = w' at *; obtain ⟨hc, hf, hs⟩ := bkeep hb; have hq' := hb.size; have hq := hB.size; have hb' := hb; clear hb)
  go_wp2
  go_returns
  exact ⟨rfl, hB⟩

/-- Block g holds an order. -/
def OrdAt (w : World) (g n : Nat) (O : Nat → Nat) : Prop := OwnIn g (g + 1) w (some ⟨g, 0, none⟩) n (fun j => .int .i64 ((O j : Nat) : Int))
theorem OrdAt.below {w w' : World} {g n : Nat} {O : Nat → Nat} (h : OrdAt w g n O) (k : Below w.heap.size w w') : OrdAt w' g n O := OwnIn.below h k
theorem OrdAt.at {w : World} {g n : Nat} {O : Nat → Nat} (h : OrdAt w g n O) {j : Nat} (hj : j < n) : w.cell? ⟨g, j, none⟩ = some (.int .i64 ((O j : Nat) : Int)) ∧ w.frozen? ⟨g, j, none⟩ = false ∧ g < w.heap.size := by
  obtain ⟨b', e, h1, h2, h3, hc⟩ := h (by omega)
  injection e with e; injection e with e
  subst e
  exact ⟨(hc j hj).1, (hc j hj).2, h3⟩
theorem OrdAt.swap {w : World} {g n : Nat} {O : Nat → Nat} (h : OrdAt w g n O) {a b : Nat} (ha : a < n) (hb : b < n) (hab : a ≠ b) :
    OrdAt ((w.setCell ⟨g, a, none⟩ (.int .i64 ((O b : Nat) : Int))).setCell ⟨g, b, none⟩ (.int .i64 ((O a : Nat) : Int))) g n (swp O a b) := by
  have h2 := OwnIn.set (OwnIn.set h ha (.int .i64 ((O b : Nat) : Int))) hb (.int .i64 ((O a : Nat) : Int))
  refine OwnIn.cong h2 (fun q hq => ?_)
  unfold swp
  by_cases h1 : q = a
  · have : ¬ q = b := by omega
    simp [h1, hab]
  · by_cases h3 : q = b
    · simp [h3, Ne.symm hab]
    · simp [h1, h3]
/-- All but the element at j is in order from a to i. -/
def sortEx (P : Nat → Int) (O : Nat → Nat) (a i j : Nat) : Prop := ∀ x y, a ≤ x → x < y → y ≤ i → y ≠ j → P (O x) ≤ P (O y)
theorem sortEx_start {P : Nat → Int} {O : Nat → Nat} {a i : Nat} (h : ∀ x y, a ≤ x → x ≤ y → y < i → P (O x) ≤ P (O y)) : sortEx P O a i i := fun x y h1 h2 h3 h4 => h x y h1 (by omega) (by omega)
theorem sortEx_swap {P : Nat → Int} {O : Nat → Nat} {a i q : Nat} (h : sortEx P O a i (q + 1)) (hq : a ≤ q) (hi : q + 1 ≤ i) (hlt : P (O (q + 1)) < P (O q)) : sortEx P (swp O (q + 1) q) a i q := by
  intro x y h1 h2 h3 h4
  unfold swp
  by_cases y1 : y = q + 1
  · subst y1
    rw [if_pos rfl]
    by_cases x1 : x = q
    · subst x1
      rw [if_neg (by omega), if_pos rfl]
      omega
    · rw [if_neg (by omega), if_neg x1]
      exact h x q h1 (by omega) (by omega) (by omega)
  · rw [if_neg y1, if_neg h4]
    by_cases x1 : x = q + 1
    · rw [if_pos x1]
      exact h q y hq (by omega) h3 y1
    · rw [if_neg x1]
      by_cases x2 : x = q
      · rw [if_pos x2]
        exact h (q + 1) y (by omega) (by omega) h3 y1
      · rw [if_neg x2]
        exact h x y h1 h2 h3 y1
theorem sortEx_low {P : Nat → Int} {O : Nat → Nat} {a i : Nat} (h : sortEx P O a i a) : ∀ x y, a ≤ x → x ≤ y → y < i + 1 → P (O x) ≤ P (O y) := fun x y h1 h2 h3 => by
  by_cases e : x = y
  · rw [e]; exact Int.le_refl _
  · exact h x y h1 (by omega) (by omega) (by omega)
theorem sortEx_stop {P : Nat → Int} {O : Nat → Nat} {a i q : Nat} (h : sortEx P O a i (q + 1)) (hi : q + 1 ≤ i) (hq : a ≤ q) (hlt : ¬ P (O (q + 1)) < P (O q)) : ∀ x y, a ≤ x → x ≤ y → y < i + 1 → P (O x) ≤ P (O y) := fun x y h1 h2 h3 => by
  by_cases e : x = y
  · rw [e]; exact Int.le_refl _
  · by_cases y1 : y = q + 1
    · subst y1
      by_cases x1 : x = q
      · subst x1; omega
      · have := h x q h1 (by omega) (by omega) (by omega)
        omega
    · exact h x y h1 (by omega) (by omega) y1
theorem IntsAt.keepg {w w' : World} {g n : Nat} {a : Option Addr} {Z : Nat → Int} (h : IntsAt w a n Z) (k : Keep g (g + 1) w w') (hg : 0 < n → ∀ b o, a = some ⟨b, o, none⟩ → b ≠ g) : IntsAt w' a n Z := fun hn => by
  obtain ⟨b, o, e, hb, hc⟩ := h hn
  have hne := hg hn b o e
  exact ⟨b, o, e, Nat.lt_of_lt_of_le hb k.size, fun j hj => (k.cellk hb (by omega)).trans (hc j hj)⟩
set_option maxHeartbeats 4000000 in
set_option maxRecDepth 100000 in
theorem sort_insertion (g n c : Nat) (O0 : Nat → Nat) (P : Nat → Int) (bx : Nat) (aP : Option Addr) (cP : Nat) (a b : Nat) (w : World) (hO : OrdAt w g n O0) (ho : OrderOf O0 n)
    (hx : w.cell? ⟨bx, 0, none⟩ = some (.slice aP n cP)) (hlx : bx < w.heap.size) (hbx : bx ≠ g) (hP : IntsAt w aP n P) (hPg : 0 < n → ∀ b o, aP = some ⟨b, o, none⟩ → b ≠ g) (hb : b ≤ n) (hn : n ≤ 100) (hg : g < w.heap.size) (ha : a ≤ 1000) :
    Calls Try.prog 61 #[.slice (some ⟨g, 0, none⟩) n c, .int .i64 (a : Int), .int .i64 (b : Int), .func (.func 47) #[] #[.pointer (some ⟨bx, 0, none⟩)]] w
      fun e w' => (∃ O, e = .returned (.tuple #[]) ∧ OrderOf O n ∧ (∀ x y, a ≤ x → x ≤ y → y < b → P (O x) ≤ P (O y)) ∧ OrdAt w' g n O) ∧ Keep g (g + 1) w w' := by
  have HX := Lib.hid (fun W (k : Keep g (g + 1) w W) => (k.cellk (o := 0) hlx (by omega)).trans hx)
  have HP := Lib.hid (fun W (k : Keep g (g + 1) w W) => hP.keepg k hPg)
  have HG := Lib.hid hPg
  clear hP hx hPg
  go_enter Try.func61, Try.ntmps61
  go_wp2_with fail
  go_loopw [8] (fun i wr => ∃ (k : Nat) (O : Nat → Nat), a + 1 ≤ k ∧ k ≤ 2000 ∧ (k ≤ b ∨ k = a + 1) ∧ i = .int .i64 (k : Int) ∧ OrderOf O n ∧ (∀ x y, a ≤ x → x ≤ y → y < k → P (O x) ≤ P (O y)) ∧ OrdAt wr g n O ∧ Keep g (g + 1) w wr) (fun i _ => b - (intOf i).toNat)
  case atStart => exact ⟨a + 1, O0, by omega, by omega, Or.inr rfl, by go_num, ho, fun x y h1 h2 h3 => by rw [show x = y by omega]; exact Int.le_refl _, hO, Keep.refl _ _ _⟩
  case round =>
    clear ho hO
    obtain ⟨k, O, hk1, hk2, hkb, rfl, ho, hs, hO, hK⟩ := hrel
    have HS0 := Lib.hid hs
    clear hs
    by_cases hlt : k < b
    · have k0 : (k : Int) < (b : Int) := by omega
      go_wp2_with fail
      go_loopw [9] (fun jj w2 => ∃ (j : Nat) (O : Nat → Nat), a ≤ j ∧ j ≤ k ∧ jj = .int .i64 (j : Int) ∧ OrderOf O n ∧ sortEx P O a k j ∧ OrdAt w2 g n O ∧ Keep g (g + 1) w w2) (fun jj _ => (intOf jj).toNat)
      case atStart => exact ⟨k, O, by omega, by omega, rfl, ho, sortEx_start HS0.out, hO, hK⟩
      case round =>
        clear ho HS0 hO hK
        obtain ⟨j, O, hj1, hj2, rfl, ho, hs, hO, hK⟩ := hrel
        have HS := Lib.hid hs
        have HO := Lib.hid ho
        clear hs ho
        by_cases hja : a < j
        · obtain ⟨q, rfl⟩ : ∃ q, j = q + 1 := ⟨j - 1, by omega⟩
          obtain ⟨c1, f1, lg⟩ := hO.at (show q + 1 < n by omega)
          obtain ⟨c0, f0, _⟩ := hO.at (show q < n by omega)
          have hx2 := HX.out _ hK
          have hP2 := HP.out _ hK
          have j0 : (a : Int) < ((q + 1 : Nat) : Int) := by omega
          have n1 : ((q + 1 : Nat) : Int) < (n : Int) := by omega
          have n0 : (q : Int) < (n : Int) := by omega
          have kc := fun W (hW : Below _ _ W) => impl_CheapestHours_2 bx aP n cP P (O (q + 1)) (O q) W ((hW.cell (p := ⟨bx, 0, none⟩) (World.block_lt_of_cell? _ _ hx2)).trans hx2) (hP2.below hW) (HO.out.lt _ (by omega)) (HO.out.lt _ (by omega)) (by omega)
          have hB := Below.refl wr.heap.size wr
          have d0 : decide ((a : Int) < (q : Int) + 1) = true := decide_eq_true (by omega)
          have n2 : (q : Int) + 1 < (n : Int) := by omega
          have n3 : ¬ (q : Int) + 1 < 0 := by omega
          have n4 : wrap64 ((q : Int) + 1 - 1) = (q : Int) := by unfold wrap64; omega
          by_cases hlt2 : P (O (q + 1)) < P (O q)
          · have e1 : cmpI (P (O (q + 1))) (P (O q)) = -1 := by unfold cmpI; rw [if_pos hlt2]
            rw [e1] at kc
            clear e1
            go_wp2
            (refine wp_region_cls (by kernel_rfl) (by kernel_rfl) ?_; (repeat (go_big_quiet_step ((go_at_call 47; with_reducible exact cls_B (kc _ (Cls.below _)))))); refine wpQuiet_nil ?_; rintro _ ⟨u, rfl⟩; have hb := u.below; replace hB := hB.trans (hb.mono hB.size); generalize u.w = w' at *; obtain ⟨hc, hf, hs⟩ := bkeep hb; have hq' := hb.size; have hq := hB.size; have hb' := hb; clear hb)
            clear c0 c1 f0 f1 hc hf hs hq' hq kc hx2 hP2
            have hO2 := hO.below hb'
            have hK2 := hK.thenBelow hb'
            obtain ⟨c1, f1, lg2⟩ := hO2.at (show q + 1 < n by omega)
            obtain ⟨c0, f0, _⟩ := hO2.at (show q < n by omega)
            clear hO hK hb' hB
            go_upto_region 6 with fail
            go_region
            go_wp2
            go_roundw
            case rel => exact ⟨q, swp O (q + 1) q, by omega, by omega, by go_num, HO.out.swap (by omega) (by omega), sortEx_swap HS.out (by omega) (by omega) hlt2, OrdAt.swap (OwnIn.drew hO2) (by omega) (by omega) (by omega), (hK2.drew.set (Nat.le_refl _) (Nat.lt_succ_self _)).set (Nat.le_refl _) (Nat.lt_succ_self _)⟩
            case measure => first | (simp [intOf]; done) | (simp [intOf]; omega)
          · have e1 : 0 ≤ cmpI (P (O (q + 1))) (P (O q)) ∧ cmpI (P (O (q + 1))) (P (O q)) ≤ 1 := by
              unfold cmpI; rw [if_neg hlt2]; split <;> omega
            have hF := Lib.hid (sortEx_stop HS.out (by omega) (by omega) hlt2)
            generalize cmpI (P (O (q + 1))) (P (O q)) = C at *
            have d1 : decide (C < 0) = false := decide_eq_false (by omega)
            go_wp2
            (refine wp_region_cls (by kernel_rfl) (by kernel_rfl) ?_; (repeat (go_big_quiet_step ((go_at_call 47; with_reducible exact cls_B (kc _ (Cls.below _)))))); refine wpQuiet_nil ?_; rintro _ ⟨u, rfl⟩; have hb := u.below; replace hB := hB.trans (hb.mono hB.size); generalize u.w = w' at *; obtain ⟨hc, hf, hs⟩ := bkeep hb; have hq' := hb.size; have hq := hB.size; have hb' := hb; clear hb)
            clear c0 c1 f0 f1 hc hf hs hq' hq kc hx2 hP2
            have hO2 := hO.below hb'
            have hK2 := hK.thenBelow hb'
            clear hO hK hb' hB
            go_wp2
            go_roundw
            case rel => exact ⟨k + 1, O, by omega, by omega, by omega, by go_num, HO.out, hF.out, hO2, hK2⟩
            case measure => simp [intOf]; omega
        · have hj3 : j = a := by omega
          have hF := Lib.hid (sortEx_low (by have := HS.out; rw [hj3] at this; exact this))
          have d1 : decide ((a : Int) < (j : Int)) = false := decide_eq_false (by omega)
          clear hj3
          go_upto_region 4 with fail
          go_region
          go_wp2
          go_roundw
          case rel => exact ⟨k + 1, O, by omega, by omega, by omega, by go_num, HO.out, hF.out, OwnIn.drew hO, hK.drew⟩
          case measure => simp [intOf]; omega
    · go_wp2_with fail
      go_returns
      exact ⟨⟨O, rfl, ho, fun x y h1 h2 h3 => HS0.out x y h1 h2 (by omega), hO⟩, hK⟩

end Go.Proofs.Ytejhngkbkcalaaa
