/-
  Contracts: the least number of a range, safe speeds, least forces.
-/
import Derived.Test.YtpmdkadfmieieaaKE
import Derived.Test.YtpmdkadfmieieaaPe
import Derived.Test.YtpmdkadfmieieaaKZ
import Derived.Lib.Hide
namespace Go.Proofs.Ytpmdkadfmieieaa
open Go.RowKit
set_option linter.unusedVariables false
set_option linter.unusedSimpArgs false


theorem impl_stopsWithin (d f s way g : Int) (down : Bool) (w : World) (h1 : 1 ≤ f) (h2 : f ≤ 10000) (h3 : 0 ≤ g) (h4 : g ≤ 900) (h5 : 0 ≤ d) (h6 : d ≤ 100) (h7 : 0 ≤ s) (h8 : s ≤ 15000) :
    Calls Try.prog 58 #[.agg #[.int .i64 d, .int .i64 f], .int .i64 s, .int .i64 way, .int .i64 g, .bool down] w
      fun e w' => e = .returned (.bool (withinV d f s way g down)) ∧ Below w.heap.size w w' := by
  have cw := fun W => impl_stopWay d f s g down W h1 h2 h3 h4 h5 h6 h7 h8
  unfold withinV
  generalize forceV f g down = F at *
  by_cases hp : F ≤ 0
  · have e1 : decide (0 < F) = false := decide_eq_false (by omega)
    rw [e1] at cw ⊢
    generalize (if F ≤ 0 then (0 : Int) else wayV d F s) = V at *
    generalize wayV d F s = V' at *
    go_enter Try.func58, Try.ntmps58
    go_wp2_with (go_at_call 52; (with_reducible refine (cw _).mono ?_); rintro e w' ⟨rfl, hb⟩; obtain ⟨hc, hf⟩ := bcell hb; have hz : w.heap.size < w'.heap.size := (by have := hb.size; (try simp at this); omega); have hB : Below w.heap.size w w' := Below.trans (by go_grown) (hb.mono (by go_size)))
    go_returns
    exact ⟨rfl, by go_grown⟩
  · have e1 : decide (0 < F) = true := decide_eq_true (by omega)
    rw [e1, if_neg hp] at cw
    rw [e1]
    generalize wayV d F s = V at *
    go_enter Try.func58, Try.ntmps58
    go_wp2_with (go_at_call 52; (with_reducible refine (cw _).mono ?_); rintro e w' ⟨rfl, hb⟩; obtain ⟨hc, hf⟩ := bcell hb; have hz : w.heap.size < w'.heap.size := (by have := hb.size; (try simp at this); omega); have hB : Below w.heap.size w w' := Below.trans (by go_grown) (hb.mono (by go_size)))
    go_returns
    exact ⟨rfl, by go_grown⟩

theorem impl_least_SafeSpeed_1 (P : Int → Bool) (lo hi v : Int) (c0 c1 c2 c3 : Value) (w : World) (h1 : 0 ≤ lo) (h2 : hi ≤ 1000000000) (h3 : lo ≤ v) (h4 : v ≤ hi + 1)
    (hl : ∀ x, lo ≤ x → x < v → P x = false) (hh : ∀ x, v ≤ x → x ≤ hi → P x = true)
    (hF : ∀ m W, lo ≤ m → m ≤ hi → Below w.heap.size w W → Calls Try.prog 57 #[.int .i64 m, c0, c1, c2, c3] W fun e w' => e = .returned (.bool (P m)) ∧ Below W.heap.size W w') :
    Calls Try.prog 56 #[.int .i64 lo, .int .i64 hi, .func (.func 57) #[] #[c0, c1, c2, c3]] w fun e w' => e = .returned (.int .i64 v) ∧ Below w.heap.size w w' := by
  have HF := Lib.hid hF
  have HL := Lib.hid hl
  have HH := Lib.hid hh
  clear hF hl hh
  go_enter Try.func56, Try.ntmps56
  go_wp2
  go_loopw [0, 7] (fun x y wr => ∃ a b : Int, x = .int .i64 a ∧ y = .int .i64 b ∧ lo ≤ a ∧ a ≤ v ∧ v ≤ b ∧ b ≤ hi + 1 ∧ Below w.heap.size w wr) (fun x y _ => (intOf y - intOf x).toNat)
  case atStart => exact ⟨lo, hi + 1, rfl, rfl, by omega, by omega, by omega, by omega, Below.refl _ _⟩
  case round =>
    obtain ⟨a, b, rfl, rfl, ha, hav, hvb, hb, hB⟩ := hrel
    by_cases hlt : a < b
    · have m0 : a ≤ (a + b) / 2 := by omega
      have m1 : (a + b) / 2 < b := by omega
      have hF := fun W => HF.out ((a + b) / 2) W (by omega) (by omega)
      have hLb := HL.out ((a + b) / 2) (by omega)
      have hHb := fun h => HH.out ((a + b) / 2) h (by omega)
      cases hp : P ((a + b) / 2)
      · have hmv : (a + b) / 2 < v := by
          by_cases h : (a + b) / 2 < v
          · exact h
          · have := hHb (by omega); rw [hp] at this; exact absurd this (by decide)
        rw [hp] at hF
        clear hp hLb hHb
        go_wp2_with (go_at_call 57; (with_reducible refine (hF _ hB).mono ?_); rintro e w' ⟨rfl, hb'⟩; have hB' : Below w.heap.size w w' := hB.trans (hb'.mono hB.size))
        go_roundw
        case rel => exact ⟨(a + b) / 2 + 1, b, rfl, rfl, by omega, by omega, by omega, by omega, hB'⟩
        case measure => simp [intOf]; omega
      · have hmv : v ≤ (a + b) / 2 := by
          by_cases h : (a + b) / 2 < v
          · have := hLb h; rw [hp] at this; exact absurd this (by decide)
          · omega
        rw [hp] at hF
        clear hp hLb hHb
        go_wp2_with (go_at_call 57; (with_reducible refine (hF _ hB).mono ?_); rintro e w' ⟨rfl, hb'⟩; have hB' : Below w.heap.size w w' := hB.trans (hb'.mono hB.size))
        go_roundw
        case rel => exact ⟨a, (a + b) / 2, rfl, rfl, by omega, by omega, by omega, by omega, hB'⟩
        case measure => simp [intOf]; omega
    · obtain rfl : a = v := by omega
      go_wp2
      go_ret
      exact ⟨rfl, hB⟩

theorem impl_SafeSpeed_1 (b1 b2 b3 b4 : Nat) (d f m way g : Int) (down : Bool) (w : World) (h1 : 1 ≤ f) (h2 : f ≤ 10000) (h3 : 0 ≤ g) (h4 : g ≤ 900) (h5 : 0 ≤ d) (h6 : d ≤ 100) (h7 : 0 ≤ m) (h8 : m ≤ 15000)
    (c0 : w.cell? ⟨b1, 0, none⟩ = some (.int .i64 d)) (c1 : w.cell? ⟨b1, 1, none⟩ = some (.int .i64 f)) (c2 : w.cell? ⟨b2, 0, none⟩ = some (.int .i64 way)) (c3 : w.cell? ⟨b3, 0, none⟩ = some (.int .i64 g)) (c4 : w.cell? ⟨b4, 0, none⟩ = some (.bool down)) :
    Calls Try.prog 57 #[.int .i64 m, .pointer (some ⟨b1, 0, none⟩), .pointer (some ⟨b2, 0, none⟩), .pointer (some ⟨b3, 0, none⟩), .pointer (some ⟨b4, 0, none⟩)] w
      fun e w' => e = .returned (.bool (!withinV d f m way g down)) ∧ Below w.heap.size w w' := by
  have cw := fun W => impl_stopsWithin d f m way g down W h1 h2 h3 h4 h5 h6 h7 h8
  generalize withinV d f m way g down = R at *
  go_enter Try.func57, Try.ntmps57
  go_wp2_with (go_at_call 58; (with_reducible refine (cw _).mono ?_); rintro e w' ⟨rfl, hb⟩; obtain ⟨hc, hf⟩ := bcell hb; have hz : w.heap.size ≤ w'.heap.size := (by have := hb.size; (try simp at this); omega); have hB : Below w.heap.size w w' := Below.trans (by go_grown) (hb.mono (by go_size)))
  go_returns
  exact ⟨rfl, by go_grown⟩

theorem impl_least_LeastDecel_1 (P : Int → Bool) (lo hi v : Int) (c0 c1 c2 c3 c4 : Value) (w : World) (h1 : 0 ≤ lo) (h2 : hi ≤ 1000000000) (h3 : lo ≤ v) (h4 : v ≤ hi + 1)
    (hl : ∀ x, lo ≤ x → x < v → P x = false) (hh : ∀ x, v ≤ x → x ≤ hi → P x = true)
    (hF : ∀ m W, lo ≤ m → m ≤ hi → Below w.heap.size w W → Calls Try.prog 61 #[.int .i64 m, c0, c1, c2, c3, c4] W fun e w' => e = .returned (.bool (P m)) ∧ Below W.heap.size W w') :
    Calls Try.prog 56 #[.int .i64 lo, .int .i64 hi, .func (.func 61) #[] #[c0, c1, c2, c3, c4]] w fun e w' => e = .returned (.int .i64 v) ∧ Below w.heap.size w w' := by
  have HF := Lib.hid hF
  have HL := Lib.hid hl
  have HH := Lib.hid hh
  clear hF hl hh
  go_enter Try.func56, Try.ntmps56
  go_wp2
  go_loopw [0, 7] (fun x y wr => ∃ a b : Int, x = .int .i64 a ∧ y = .int .i64 b ∧ lo ≤ a ∧ a ≤ v ∧ v ≤ b ∧ b ≤ hi + 1 ∧ Below w.heap.size w wr) (fun x y _ => (intOf y - intOf x).toNat)
  case atStart => exact ⟨lo, hi + 1, rfl, rfl, by omega, by omega, by omega, by omega, Below.refl _ _⟩
  case round =>
    obtain ⟨a, b, rfl, rfl, ha, hav, hvb, hb, hB⟩ := hrel
    by_cases hlt : a < b
    · have m0 : a ≤ (a + b) / 2 := by omega
      have m1 : (a + b) / 2 < b := by omega
      have hF := fun W => HF.out ((a + b) / 2) W (by omega) (by omega)
      have hLb := HL.out ((a + b) / 2) (by omega)
      have hHb := fun h => HH.out ((a + b) / 2) h (by omega)
      cases hp : P ((a + b) / 2)
      · have hmv : (a + b) / 2 < v := by
          by_cases h : (a + b) / 2 < v
          · exact h
          · have := hHb (by omega); rw [hp] at this; exact absurd this (by decide)
        rw [hp] at hF
        clear hp hLb hHb
        go_wp2_with (go_at_call 61; (with_reducible refine (hF _ hB).mono ?_); rintro e w' ⟨rfl, hb'⟩; have hB' : Below w.heap.size w w' := hB.trans (hb'.mono hB.size))
        go_roundw
        case rel => exact ⟨(a + b) / 2 + 1, b, rfl, rfl, by omega, by omega, by omega, by omega, hB'⟩
        case measure => simp [intOf]; omega
      · have hmv : v ≤ (a + b) / 2 := by
          by_cases h : (a + b) / 2 < v
          · have := hLb h; rw [hp] at this; exact absurd this (by decide)
          · omega
        rw [hp] at hF
        clear hp hLb hHb
        go_wp2_with (go_at_call 61; (with_reducible refine (hF _ hB).mono ?_); rintro e w' ⟨rfl, hb'⟩; have hB' : Below w.heap.size w w' := hB.trans (hb'.mono hB.size))
        go_roundw
        case rel => exact ⟨a, (a + b) / 2, rfl, rfl, by omega, by omega, by omega, by omega, hB'⟩
        case measure => simp [intOf]; omega
    · obtain rfl : a = v := by omega
      go_wp2
      go_ret
      exact ⟨rfl, hB⟩

theorem impl_LeastDecel_1 (b1 b2 b3 b4 b5 : Nat) (d f m s way g : Int) (down : Bool) (w : World) (h1 : 1 ≤ m) (h2 : m ≤ 10000) (h3 : 0 ≤ g) (h4 : g ≤ 900) (h5 : 0 ≤ d) (h6 : d ≤ 100) (h7 : 0 ≤ s) (h8 : s ≤ 15000)
    (c0 : w.cell? ⟨b1, 0, none⟩ = some (.int .i64 d)) (c1 : w.cell? ⟨b1, 1, none⟩ = some (.int .i64 f)) (c2 : w.cell? ⟨b2, 0, none⟩ = some (.int .i64 s)) (c3 : w.cell? ⟨b3, 0, none⟩ = some (.int .i64 way)) (c4 : w.cell? ⟨b4, 0, none⟩ = some (.int .i64 g)) (c5 : w.cell? ⟨b5, 0, none⟩ = some (.bool down)) :
    Calls Try.prog 61 #[.int .i64 m, .pointer (some ⟨b1, 0, none⟩), .pointer (some ⟨b2, 0, none⟩), .pointer (some ⟨b3, 0, none⟩), .pointer (some ⟨b4, 0, none⟩), .pointer (some ⟨b5, 0, none⟩)] w
      fun e w' => e = .returned (.bool (withinV d m s way g down)) ∧ Below w.heap.size w w' := by
  have cw := fun W => impl_stopsWithin d m s way g down W h1 h2 h3 h4 h5 h6 h7 h8
  generalize withinV d m s way g down = R at *
  go_enter Try.func61, Try.ntmps61
  go_wp2_with (go_at_call 58; (with_reducible refine (cw _).mono ?_); rintro e w' ⟨rfl, hb⟩; obtain ⟨hc, hf⟩ := bcell hb; have hz : w.heap.size ≤ w'.heap.size := (by have := hb.size; (try simp at this); omega); have hB : Below w.heap.size w w' := Below.trans (by go_grown) (hb.mono (by go_size)))
  go_returns
  exact ⟨rfl, by go_grown⟩

theorem askWay_1 {d f way g : Int} (h : validBrake d f = false) : askWay d f way g = 1 := by simp [askWay, h]
theorem askWay_2 {d f way g : Int} (h : validBrake d f = true) (h' : (inB way 0 3000000 && inB g 0 900) = false) : askWay d f way g = 2 := by simp [askWay, h]; simp at h'; exact h'
theorem askWay_0 {d f way g : Int} (h : validBrake d f = true) (h' : (inB way 0 3000000 && inB g 0 900) = true) : askWay d f way g = 0 := by simp [askWay, h]; simp at h'; exact h'
theorem safe_ask {d f way g c : Int} {down : Bool} (h : askWay d f way g = c) (hc : c ≠ 0) : safeCode d f way g down = c ∧ safeV d f way g down = 0 := by
  have e : safeCode d f way g down = c := by unfold safeCode; rw [h, if_neg hc]
  exact ⟨e, by unfold safeV; rw [e, if_neg hc]⟩
theorem safe_3 {d f way g : Int} {down : Bool} (h : askWay d f way g = 0) (hp : forceV f g down ≤ 0) : safeCode d f way g down = 3 ∧ safeV d f way g down = 0 := by
  have e : safeCode d f way g down = 3 := by unfold safeCode; rw [h, if_pos rfl, if_pos hp]
  exact ⟨e, by unfold safeV; rw [e]; rfl⟩
theorem safe_0 {d f way g : Int} {down : Bool} (h : askWay d f way g = 0) (hp : ¬ forceV f g down ≤ 0) : safeCode d f way g down = 0 ∧ safeV d f way g down = (unsafeV d f way g down : Int) - 1 := by
  have e : safeCode d f way g down = 0 := by unfold safeCode; rw [h, if_pos rfl, if_neg hp]
  exact ⟨e, by unfold safeV; rw [e, if_pos rfl]⟩
set_option maxHeartbeats 1000000 in
theorem impl_SafeSpeed (d f way g : Int) (down : Bool) (w : World) :
    Calls Try.prog 27 #[.agg #[.int .i64 d, .int .i64 f], .int .i64 way, .int .i64 g, .bool down] w
      fun e w' => e = .returned (.tuple #[.int .i64 (safeV d f way g down), .int .i64 (safeCode d f way g down)]) ∧ Below w.heap.size w w' := by
  have ks := fun W => impl_isWay way W
  have kg := fun W => impl_isGrade g W
  have kb := fun fine W => impl_braked d f fine W
  cases hv : validBrake d f
  · obtain ⟨e1, e2⟩ := safe_ask (down := down) (askWay_1 (way := way) (g := g) hv) (by decide)
    rw [e1, e2]
    clear e1 e2
    rw [hv] at kb
    cases hs : inB way 0 3000000 <;> cases hg : inB g 0 900 <;> rw [hs] at ks <;> rw [hg] at kg
    all_goals
      go_enter Try.func27, Try.ntmps27
      go_wp2
      (refine wp_region_cls (by kernel_rfl) (by kernel_rfl) ?_; (repeat (go_big_quiet_step ((first | (go_at_call 55; exact cls_S (ks _)) | (go_at_call 51; exact cls_S (kg _)) | (go_at_call 49; exact cls_B (kb _ _)))))); refine wpQuiet_nil ?_; rintro _ ⟨u, rfl⟩; have hb := u.below; generalize u.w = w' at *; obtain ⟨hc, hf⟩ := bcell hb; have hz : w.heap.size < w'.heap.size := (by have := hb.size; (try simp at this); omega); have hz1 : w.heap.size + 1 < w'.heap.size := (by have := hb.size; (try simp at this); omega); have hz2 : w.heap.size + 1 + 1 < w'.heap.size := (by have := hb.size; (try simp at this); omega); have hz3 : w.heap.size + 1 + 1 + 1 < w'.heap.size := (by have := hb.size; (try simp at this); omega); have hB : Below w.heap.size w w' := Below.trans (by go_grown) (hb.mono (by go_size)))
      go_wp2
      go_returns
      exact ⟨rfl, by go_grown⟩
  · rw [hv] at kb
    cases hsg : (inB way 0 3000000 && inB g 0 900)
    · obtain ⟨e1, e2⟩ := safe_ask (down := down) (askWay_2 (way := way) (g := g) hv hsg) (by decide)
      rw [e1, e2]
      clear e1 e2
      cases hs : inB way 0 3000000 <;> cases hg : inB g 0 900 <;> rw [hs] at ks <;> rw [hg] at kg <;> simp [hs, hg] at hsg
      all_goals
        go_enter Try.func27, Try.ntmps27
        go_wp2
        (refine wp_region_cls (by kernel_rfl) (by kernel_rfl) ?_; (repeat (go_big_quiet_step ((first | (go_at_call 55; exact cls_S (ks _)) | (go_at_call 51; exact cls_S (kg _)) | (go_at_call 49; exact cls_B (kb _ _)))))); refine wpQuiet_nil ?_; rintro _ ⟨u, rfl⟩; have hb := u.below; generalize u.w = w' at *; obtain ⟨hc, hf⟩ := bcell hb; have hz : w.heap.size < w'.heap.size := (by have := hb.size; (try simp at this); omega); have hz1 : w.heap.size + 1 < w'.heap.size := (by have := hb.size; (try simp at this); omega); have hz2 : w.heap.size + 1 + 1 < w'.heap.size := (by have := hb.size; (try simp at this); omega); have hz3 : w.heap.size + 1 + 1 + 1 < w'.heap.size := (by have := hb.size; (try simp at this); omega); have hB : Below w.heap.size w w' := Below.trans (by go_grown) (hb.mono (by go_size)))
        go_wp2
        go_returns
        exact ⟨rfl, by go_grown⟩
    · have ha := askWay_0 hv hsg
      rw [Bool.and_eq_true] at hsg
      obtain ⟨hs, hg⟩ := hsg
      rw [hs] at ks
      rw [hg] at kg
      have hb := validBrake_bd hv
      obtain ⟨h7, h8⟩ := inB_true.1 hs
      obtain ⟨h3, h4⟩ := inB_true.1 hg
      obtain ⟨h5, h6, h1, h2⟩ := hb
      have cF := fun W => impl_brakeForce d f g down W h1 h2 h3 h4
      have hF := force_bd (down := down) h1 h2 h3 h4
      by_cases hp : forceV f g down ≤ 0
      · obtain ⟨e1, e2⟩ := safe_3 ha hp
        rw [e1, e2]
        clear e1 e2 ha
        generalize forceV f g down = F at *
        go_enter Try.func27, Try.ntmps27
        go_wp2
        (refine wp_region_cls (by kernel_rfl) (by kernel_rfl) ?_; (repeat (go_big_quiet_step ((first | (go_at_call 55; exact cls_S (ks _)) | (go_at_call 51; exact cls_S (kg _)) | (go_at_call 49; exact cls_B (kb _ _)))))); refine wpQuiet_nil ?_; rintro _ ⟨u, rfl⟩; have hb := u.below; generalize u.w = w' at *; obtain ⟨hc, hf⟩ := bcell hb; have hz : w.heap.size < w'.heap.size := (by have := hb.size; (try simp at this); omega); have hz1 : w.heap.size + 1 < w'.heap.size := (by have := hb.size; (try simp at this); omega); have hz2 : w.heap.size + 1 + 1 < w'.heap.size := (by have := hb.size; (try simp at this); omega); have hz3 : w.heap.size + 1 + 1 + 1 < w'.heap.size := (by have := hb.size; (try simp at this); omega); have hB : Below w.heap.size w w' := Below.trans (by go_grown) (hb.mono (by go_size)))
        go_wp2_with (go_at_call 53; (with_reducible refine (cF _).mono ?_); rintro e w' ⟨rfl, hb⟩; obtain ⟨hc, hf⟩ := bcell hb; have hz : w.heap.size < w'.heap.size := (by have := hb.size; (try simp at this); omega); have hz1 : w.heap.size + 1 < w'.heap.size := (by have := hb.size; (try simp at this); omega); have hz2 : w.heap.size + 1 + 1 < w'.heap.size := (by have := hb.size; (try simp at this); omega); have hz3 : w.heap.size + 1 + 1 + 1 < w'.heap.size := (by have := hb.size; (try simp at this); omega); have hB : Below w.heap.size w w' := Below.trans (by go_grown) (hb.mono (by go_size)))
        go_returns
        exact ⟨rfl, by go_grown⟩
      · obtain ⟨e1, e2⟩ := safe_0 ha hp
        rw [e1, e2]
        have u1 := unsafe_le d f way g down
        have u0 := unsafe_pos (d := d) (down := down) (f := f) (g := g) (way := way) (by omega) h7
        have cl := fun W (z : w.heap.size + 1 + 1 + 1 < W.heap.size) k0 k1 k2 k3 k4 => impl_least_SafeSpeed_1 (fun m => !withinV d f m way g down) 0 15000 (unsafeV d f way g down) (.pointer (some ⟨w.heap.size, 0, none⟩)) (.pointer (some ⟨w.heap.size + 1, 0, none⟩)) (.pointer (some ⟨w.heap.size + 1 + 1, 0, none⟩)) (.pointer (some ⟨w.heap.size + 1 + 1 + 1, 0, none⟩)) W (by omega) (by omega) (by omega) (by omega)
          (fun x hx hx' => by show (!withinV d f x way g down) = false; rw [unsafe_lt hx hx']; rfl) (fun x hx hx' => by show (!withinV d f x way g down) = true; rw [unsafe_ge h5 hx hx']; rfl)
          (fun m W' hm hm' hB => impl_SafeSpeed_1 w.heap.size (w.heap.size + 1) (w.heap.size + 1 + 1) (w.heap.size + 1 + 1 + 1) d f m way g down W' h1 h2 h3 h4 h5 h6 hm hm' ((hB.cell (p := ⟨w.heap.size, 0, none⟩) (show w.heap.size < W.heap.size by omega)).trans k0) ((hB.cell (p := ⟨w.heap.size, 1, none⟩) (show w.heap.size < W.heap.size by omega)).trans k1) ((hB.cell (p := ⟨w.heap.size + 1, 0, none⟩) (show w.heap.size + 1 < W.heap.size by omega)).trans k2) ((hB.cell (p := ⟨w.heap.size + 1 + 1, 0, none⟩) (show w.heap.size + 1 + 1 < W.heap.size by omega)).trans k3) ((hB.cell (p := ⟨w.heap.size + 1 + 1 + 1, 0, none⟩) (show w.heap.size + 1 + 1 + 1 < W.heap.size by omega)).trans k4))
        clear e1 e2 ha
        generalize forceV f g down = F at *
        generalize unsafeV d f way g down = U at *
        obtain ⟨F0, F1⟩ := hF
        have hp' : 0 < F := by omega
        go_enter Try.func27, Try.ntmps27
        go_wp2
        (refine wp_region_cls (by kernel_rfl) (by kernel_rfl) ?_; (repeat (go_big_quiet_step ((first | (go_at_call 55; exact cls_S (ks _)) | (go_at_call 51; exact cls_S (kg _)) | (go_at_call 49; exact cls_B (kb _ _)))))); refine wpQuiet_nil ?_; rintro _ ⟨u, rfl⟩; have hb := u.below; generalize u.w = w' at *; obtain ⟨hc, hf⟩ := bcell hb; have hz : w.heap.size < w'.heap.size := (by have := hb.size; (try simp at this); omega); have hz1 : w.heap.size + 1 < w'.heap.size := (by have := hb.size; (try simp at this); omega); have hz2 : w.heap.size + 1 + 1 < w'.heap.size := (by have := hb.size; (try simp at this); omega); have hz3 : w.heap.size + 1 + 1 + 1 < w'.heap.size := (by have := hb.size; (try simp at this); omega); have hB : Below w.heap.size w w' := Below.trans (by go_grown) (hb.mono (by go_size)))
        go_wp2_with (first | (go_at_call 53; (with_reducible refine (cF _).mono ?_); rintro e w' ⟨rfl, hb⟩; obtain ⟨hc, hf⟩ := bcell hb; have hz : w.heap.size < w'.heap.size := (by have := hb.size; (try simp at this); omega); have hz1 : w.heap.size + 1 < w'.heap.size := (by have := hb.size; (try simp at this); omega); have hz2 : w.heap.size + 1 + 1 < w'.heap.size := (by have := hb.size; (try simp at this); omega); have hz3 : w.heap.size + 1 + 1 + 1 < w'.heap.size := (by have := hb.size; (try simp at this); omega); have hB : Below w.heap.size w w' := Below.trans (by go_grown) (hb.mono (by go_size))) | (go_at_call 56; (with_reducible refine (cl _ (by omega) (by go_cell) (by go_cell) (by go_cell) (by go_cell) (by go_cell)).mono ?_); rintro e w' ⟨rfl, hb⟩; obtain ⟨hc, hf⟩ := bcell hb; have hz : w.heap.size < w'.heap.size := (by have := hb.size; (try simp at this); omega); have hz1 : w.heap.size + 1 < w'.heap.size := (by have := hb.size; (try simp at this); omega); have hz2 : w.heap.size + 1 + 1 < w'.heap.size := (by have := hb.size; (try simp at this); omega); have hz3 : w.heap.size + 1 + 1 + 1 < w'.heap.size := (by have := hb.size; (try simp at this); omega); have hB : Below w.heap.size w w' := Below.trans (by go_grown) (hb.mono (by go_size))))
        go_returns
        exact ⟨rfl, by go_grown⟩

theorem askLeast_1 {d f s way g : Int} (h : validBrake d f = false) : askLeast d f s way g = 1 := by simp [askLeast, h]
theorem askLeast_2 {d f s way g : Int} (h : validBrake d f = true) (h' : (inB s 0 15000 && inB way 0 3000000 && inB g 0 900) = false) : askLeast d f s way g = 2 := by
  unfold askLeast; rw [if_pos h, if_neg (by rw [h']; decide)]
theorem askLeast_0 {d f s way g : Int} (h : validBrake d f = true) (h' : (inB s 0 15000 && inB way 0 3000000 && inB g 0 900) = true) : askLeast d f s way g = 0 := by
  unfold askLeast; rw [if_pos h, if_pos h']
theorem least_ask {d f s way g c : Int} {down : Bool} (h : askLeast d f s way g = c) (hc : c ≠ 0) : leastCode d f s way g down = c ∧ leastV d f s way g down = 0 := by
  have e : leastCode d f s way g down = c := by unfold leastCode; rw [h, if_neg hc]
  exact ⟨e, by unfold leastV; rw [e, if_neg hc]⟩
theorem least_3 {d f s way g : Int} {down : Bool} (h : askLeast d f s way g = 0) (hp : ¬ leastN d s way g down < 10000) : leastCode d f s way g down = 3 ∧ leastV d f s way g down = 0 := by
  have e : leastCode d f s way g down = 3 := by unfold leastCode; rw [h, if_pos rfl, if_neg hp]
  exact ⟨e, by unfold leastV; rw [e, if_neg (by decide)]⟩
theorem least_0 {d f s way g : Int} {down : Bool} (h : askLeast d f s way g = 0) (hp : leastN d s way g down < 10000) : leastCode d f s way g down = 0 ∧ leastV d f s way g down = (leastN d s way g down : Int) + 1 := by
  have e : leastCode d f s way g down = 0 := by unfold leastCode; rw [h, if_pos rfl, if_pos hp]
  exact ⟨e, by unfold leastV; rw [e, if_pos rfl]⟩
set_option maxRecDepth 100000 in
set_option maxHeartbeats 2000000 in
theorem impl_LeastDecel (d f s way g : Int) (down : Bool) (w : World) :
    Calls Try.prog 29 #[.agg #[.int .i64 d, .int .i64 f], .int .i64 s, .int .i64 way, .int .i64 g, .bool down] w
      fun e w' => e = .returned (.tuple #[.int .i64 (leastV d f s way g down), .int .i64 (leastCode d f s way g down)]) ∧ Below w.heap.size w w' := by
  have ks := fun W => impl_isSpeed s W
  have kw := fun W => impl_isWay way W
  have kg := fun W => impl_isGrade g W
  have kb := fun fine W => impl_braked d f fine W
  cases hsg : (validBrake d f && (inB s 0 15000 && inB way 0 3000000 && inB g 0 900))
  · have hc : leastV d f s way g down = 0 ∧ (if validBrake d f = true then (if (inB s 0 15000 && inB way 0 3000000 && inB g 0 900) = true then (0 : Int) else 2) else 1) = leastCode d f s way g down ∧ leastCode d f s way g down ≠ 0 := by
      cases hv : validBrake d f
      · obtain ⟨e1, e2⟩ := least_ask (down := down) (askLeast_1 (s := s) (way := way) (g := g) hv) (by decide)
        rw [e1, e2]; exact ⟨rfl, rfl, by decide⟩
      · rw [hv, Bool.true_and] at hsg
        obtain ⟨e1, e2⟩ := least_ask (down := down) (askLeast_2 (s := s) (way := way) (g := g) hv hsg) (by decide)
        rw [e1, e2, hsg]; exact ⟨rfl, rfl, by decide⟩
    obtain ⟨e1, e2, e3⟩ := hc
    rw [e1]
    have kb' := kb (inB s 0 15000 && inB way 0 3000000 && inB g 0 900)
    rw [e2] at kb'
    generalize leastCode d f s way g down = C at *
    have hC0 : (C == 0) = false := beq_eq_false_iff_ne.2 e3
    clear e1 e2 kb hsg
    cases hs : inB s 0 15000 <;> cases hw : inB way 0 3000000 <;> cases hg : inB g 0 900 <;> rw [hs] at ks kb' <;> rw [hw] at kw kb' <;> rw [hg] at kg kb'
    all_goals
      try simp only [Bool.and_true, Bool.and_false, Bool.true_and, Bool.false_and] at kb'
      go_enter Try.func29, Try.ntmps29
      go_wp2
      (refine wp_region_cls (by kernel_rfl) (by kernel_rfl) ?_; (repeat (go_big_quiet_step ((first | (go_at_call 50; exact cls_S (ks _)) | (go_at_call 55; exact cls_S (kw _)) | (go_at_call 51; exact cls_S (kg _)) | (go_at_call 49; exact cls_B (kb' _)))))); refine wpQuiet_nil ?_; rintro _ ⟨u, rfl⟩; have hb := u.below; generalize u.w = w' at *; obtain ⟨hc, hf⟩ := bcell hb; have hz : w.heap.size < w'.heap.size := (by have := hb.size; (try simp at this); omega); have hz1 : w.heap.size + 1 < w'.heap.size := (by have := hb.size; (try simp at this); omega); have hz2 : w.heap.size + 1 + 1 < w'.heap.size := (by have := hb.size; (try simp at this); omega); have hz3 : w.heap.size + 1 + 1 + 1 < w'.heap.size := (by have := hb.size; (try simp at this); omega); have hz4 : w.heap.size + 1 + 1 + 1 + 1 < w'.heap.size := (by have := hb.size; (try simp at this); omega); have hB : Below w.heap.size w w' := Below.trans (by go_grown) (hb.mono (by go_size)))
      go_wp2
      go_returns
      exact ⟨rfl, by go_grown⟩
  · rw [Bool.and_eq_true] at hsg
    obtain ⟨hv, hsg⟩ := hsg
    have ha := askLeast_0 hv hsg
    rw [hv] at kb
    rw [Bool.and_eq_true, Bool.and_eq_true] at hsg
    obtain ⟨⟨hs, hw⟩, hg⟩ := hsg
    rw [hs] at ks
    rw [hw] at kw
    rw [hg] at kg
    obtain ⟨h7, h8⟩ := inB_true.1 hs
    obtain ⟨h3, h4⟩ := inB_true.1 hg
    obtain ⟨h5, h6, h1, h2⟩ := validBrake_bd hv
    have u1 := least_le d s way g down
    have cl := fun W (z : w.heap.size + 1 + 1 + 1 + 1 < W.heap.size) k0 k1 k2 k3 k4 k5 => impl_least_LeastDecel_1 (fun m => withinV d m s way g down) 1 10000 ((leastN d s way g down : Int) + 1) (.pointer (some ⟨w.heap.size, 0, none⟩)) (.pointer (some ⟨w.heap.size + 1, 0, none⟩)) (.pointer (some ⟨w.heap.size + 1 + 1, 0, none⟩)) (.pointer (some ⟨w.heap.size + 1 + 1 + 1, 0, none⟩)) (.pointer (some ⟨w.heap.size + 1 + 1 + 1 + 1, 0, none⟩)) W (by omega) (by omega) (by omega) (by omega)
      (fun x hx hx' => least_lt hx (by omega)) (fun x hx hx' => least_ge h7 (by omega) hx')
      (fun m W' hm hm' hB => impl_LeastDecel_1 w.heap.size (w.heap.size + 1) (w.heap.size + 1 + 1) (w.heap.size + 1 + 1 + 1) (w.heap.size + 1 + 1 + 1 + 1) d f m s way g down W' hm hm' h3 h4 h5 h6 h7 h8 ((hB.cell (p := ⟨w.heap.size, 0, none⟩) (show w.heap.size < W.heap.size by omega)).trans k0) ((hB.cell (p := ⟨w.heap.size, 1, none⟩) (show w.heap.size < W.heap.size by omega)).trans k1) ((hB.cell (p := ⟨w.heap.size + 1, 0, none⟩) (show w.heap.size + 1 < W.heap.size by omega)).trans k2) ((hB.cell (p := ⟨w.heap.size + 1 + 1, 0, none⟩) (show w.heap.size + 1 + 1 < W.heap.size by omega)).trans k3) ((hB.cell (p := ⟨w.heap.size + 1 + 1 + 1, 0, none⟩) (show w.heap.size + 1 + 1 + 1 < W.heap.size by omega)).trans k4) ((hB.cell (p := ⟨w.heap.size + 1 + 1 + 1 + 1, 0, none⟩) (show w.heap.size + 1 + 1 + 1 + 1 < W.heap.size by omega)).trans k5))
    by_cases hp : leastN d s way g down < 10000
    · obtain ⟨e1, e2⟩ := least_0 ha hp
      rw [e1, e2]
      clear e1 e2 ha
      generalize leastN d s way g down = U at *
      have hU0 : (U : Int) + 1 ≤ 10000 := by omega
      go_enter Try.func29, Try.ntmps29
      go_wp2
      (refine wp_region_cls (by kernel_rfl) (by kernel_rfl) ?_; (repeat (go_big_quiet_step ((first | (go_at_call 50; exact cls_S (ks _)) | (go_at_call 55; exact cls_S (kw _)) | (go_at_call 51; exact cls_S (kg _)) | (go_at_call 49; exact cls_B (kb _ _)))))); refine wpQuiet_nil ?_; rintro _ ⟨u, rfl⟩; have hb := u.below; generalize u.w = w' at *; obtain ⟨hc, hf⟩ := bcell hb; have hz : w.heap.size < w'.heap.size := (by have := hb.size; (try simp at this); omega); have hz1 : w.heap.size + 1 < w'.heap.size := (by have := hb.size; (try simp at this); omega); have hz2 : w.heap.size + 1 + 1 < w'.heap.size := (by have := hb.size; (try simp at this); omega); have hz3 : w.heap.size + 1 + 1 + 1 < w'.heap.size := (by have := hb.size; (try simp at this); omega); have hz4 : w.heap.size + 1 + 1 + 1 + 1 < w'.heap.size := (by have := hb.size; (try simp at this); omega); have hB : Below w.heap.size w w' := Below.trans (by go_grown) (hb.mono (by go_size)))
      go_wp2_with (go_at_call 56; (with_reducible refine (cl _ (by omega) (by go_cell) (by go_cell) (by go_cell) (by go_cell) (by go_cell) (by go_cell)).mono ?_); rintro e w' ⟨rfl, hb⟩; obtain ⟨hc, hf⟩ := bcell hb; have hz : w.heap.size < w'.heap.size := (by have := hb.size; (try simp at this); omega); have hz1 : w.heap.size + 1 < w'.heap.size := (by have := hb.size; (try simp at this); omega); have hz2 : w.heap.size + 1 + 1 < w'.heap.size := (by have := hb.size; (try simp at this); omega); have hz3 : w.heap.size + 1 + 1 + 1 < w'.heap.size := (by have := hb.size; (try simp at this); omega); have hz4 : w.heap.size + 1 + 1 + 1 + 1 < w'.heap.size := (by have := hb.size; (try simp at this); omega); have hB : Below w.heap.size w w' := Below.trans (by go_grown) (hb.mono (by go_size)))
      go_returns
      exact ⟨rfl, by go_grown⟩
    · obtain ⟨e1, e2⟩ := least_3 ha hp
      rw [e1, e2]
      clear e1 e2 ha
      have hU : leastN d s way g down = 10000 := by omega
      rw [hU] at cl
      clear hU hp u1
      go_enter Try.func29, Try.ntmps29
      go_wp2
      (refine wp_region_cls (by kernel_rfl) (by kernel_rfl) ?_; (repeat (go_big_quiet_step ((first | (go_at_call 50; exact cls_S (ks _)) | (go_at_call 55; exact cls_S (kw _)) | (go_at_call 51; exact cls_S (kg _)) | (go_at_call 49; exact cls_B (kb _ _)))))); refine wpQuiet_nil ?_; rintro _ ⟨u, rfl⟩; have hb := u.below; generalize u.w = w' at *; obtain ⟨hc, hf⟩ := bcell hb; have hz : w.heap.size < w'.heap.size := (by have := hb.size; (try simp at this); omega); have hz1 : w.heap.size + 1 < w'.heap.size := (by have := hb.size; (try simp at this); omega); have hz2 : w.heap.size + 1 + 1 < w'.heap.size := (by have := hb.size; (try simp at this); omega); have hz3 : w.heap.size + 1 + 1 + 1 < w'.heap.size := (by have := hb.size; (try simp at this); omega); have hz4 : w.heap.size + 1 + 1 + 1 + 1 < w'.heap.size := (by have := hb.size; (try simp at this); omega); have hB : Below w.heap.size w w' := Below.trans (by go_grown) (hb.mono (by go_size)))
      go_wp2_with (go_at_call 56; (with_reducible refine (cl _ (by omega) (by go_cell) (by go_cell) (by go_cell) (by go_cell) (by go_cell) (by go_cell)).mono ?_); rintro e w' ⟨rfl, hb⟩; obtain ⟨hc, hf⟩ := bcell hb; have hz : w.heap.size < w'.heap.size := (by have := hb.size; (try simp at this); omega); have hz1 : w.heap.size + 1 < w'.heap.size := (by have := hb.size; (try simp at this); omega); have hz2 : w.heap.size + 1 + 1 < w'.heap.size := (by have := hb.size; (try simp at this); omega); have hz3 : w.heap.size + 1 + 1 + 1 < w'.heap.size := (by have := hb.size; (try simp at this); omega); have hz4 : w.heap.size + 1 + 1 + 1 + 1 < w'.heap.size := (by have := hb.size; (try simp at this); omega); have hB : Below w.heap.size w w' := Below.trans (by go_grown) (hb.mono (by go_size)))
      go_returns
      exact ⟨rfl, by go_grown⟩

end Go.Proofs.Ytpmdkadfmieieaa
