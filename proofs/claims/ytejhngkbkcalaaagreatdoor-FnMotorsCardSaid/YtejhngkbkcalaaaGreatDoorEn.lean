/-
  Contracts: the greatest speed with a force, energies, the hardest pull.
-/
import Derived.Test.YtejhngkbkcalaaaGreatDoorMc
namespace Go.Proofs.YtejhngkbkcalaaaGreatDoor
open Go.RowKit
set_option linter.unusedVariables false
set_option linter.unusedSimpArgs false


theorem impl_least_SpeedWith_1 (P : Int → Bool) (lo hi v : Int) (c0 c1 : Value) (w : World) (h1 : 0 ≤ lo) (h2 : hi ≤ 1000000000) (h3 : lo ≤ v) (h4 : v ≤ hi + 1)
    (hl : ∀ x, lo ≤ x → x < v → P x = false) (hh : ∀ x, v ≤ x → x ≤ hi → P x = true)
    (hF : ∀ m W, lo ≤ m → m ≤ hi → Below w.heap.size w W → Calls Tryz.prog 22 #[.int .i64 m, c0, c1] W fun e w' => e = .returned (.bool (P m)) ∧ Below W.heap.size W w') :
    Calls Tryz.prog 21 #[.int .i64 lo, .int .i64 hi, .func (.func 22) #[] #[c0, c1]] w fun e w' => e = .returned (.int .i64 v) ∧ Below w.heap.size w w' := by
  have HF := Lib.hid hF
  have HL := Lib.hid hl
  have HH := Lib.hid hh
  clear hF hl hh
  go_enter Tryz.func21, Tryz.ntmps21
  go_wp2
  go_loopw [0, 7] (fun x y wr => ∃ a b : Int, x = .int .i64 a ∧ y = .int .i64 b ∧ lo ≤ a ∧ a ≤ v ∧ v ≤ b ∧ b ≤ hi + 1 ∧ Below w.heap.size w wr) (fun x y _ => (intOf y - intOf x).toNat)
  case atStart => exact ⟨lo, hi + 1, rfl, rfl, by omega, by omega, by omega, by omega, Below.refl _ _⟩
  case round =>
    obtain ⟨a, b, rfl, rfl, ha, hav, hvb, hb, hB⟩ := hrel
    by_cases hlt : a < b
    · have m0 : a ≤ (a + b) / 2 := by omega
      have m1 : (a + b) / 2 < b := by omega
      have hF := fun W => HF.out ((a + b) / 2) W (by omega) (by omega)
      have hLb := HL.out ((a + b) / 2) (by omega)
      have hHb := fun h => HH.out ((a + b) / 2) h (by omega)
      cases hp : P ((a + b) / 2)
      · have hmv : (a + b) / 2 < v := by
          by_cases h : (a + b) / 2 < v
          · exact h
          · have := hHb (by omega); rw [hp] at this; exact absurd this (by decide)
        rw [hp] at hF
        clear hp hLb hHb
        go_wp2_with (go_at_call 22; (with_reducible refine (hF _ hB).mono ?_); rintro e w' ⟨rfl, hb'⟩; have hB' : Below w.heap.size w w' := hB.trans (hb'.mono hB.size))
        go_roundw
        case rel => exact ⟨(a + b) / 2 + 1, b, rfl, rfl, by omega, by omega, by omega, by omega, hB'⟩
        case measure => simp [intOf]; omega
      · have hmv : v ≤ (a + b) / 2 := by
          by_cases h : (a + b) / 2 < v
          · have := hLb h; rw [hp] at this; exact absurd this (by decide)
          · omega
        rw [hp] at hF
        clear hp hLb hHb
        go_wp2_with (go_at_call 22; (with_reducible refine (hF _ hB).mono ?_); rintro e w' ⟨rfl, hb'⟩; have hB' : Below w.heap.size w w' := hB.trans (hb'.mono hB.size))
        go_roundw
        case rel => exact ⟨a, (a + b) / 2, rfl, rfl, by omega, by omega, by omega, by omega, hB'⟩
        case measure => simp [intOf]; omega
    · obtain rfl : a = v := by omega
      go_wp2
      go_ret
      exact ⟨rfl, hB⟩

theorem impl_SpeedWith_1 (b1 b2 : Nat) (p m l f s : Int) (w : World) (h1 : -1000000 ≤ f) (h2 : f ≤ 1000000) (h3 : 0 ≤ s) (h4 : s ≤ 20000) (l0 : 0 ≤ l) (l1 : l ≤ 500)
    (c0 : w.cell? ⟨b1, 0, none⟩ = some (.int .i64 p)) (c1 : w.cell? ⟨b1, 1, none⟩ = some (.int .i64 m)) (c2 : w.cell? ⟨b1, 2, none⟩ = some (.int .i64 l)) (c3 : w.cell? ⟨b2, 0, none⟩ = some (.int .i64 f)) :
    Calls Tryz.prog 22 #[.int .i64 s, .pointer (some ⟨b1, 0, none⟩), .pointer (some ⟨b2, 0, none⟩)] w
      fun e w' => e = .returned (.bool (!canV p m l f s)) ∧ Below w.heap.size w w' := by
  have cw := fun W => impl_canDo p m l f s W h1 h2 h3 h4 l0 l1
  generalize canV p m l f s = R at *
  go_enter Tryz.func22, Tryz.ntmps22
  go_wp2_with (go_at_call 23; (with_reducible refine (cw _).mono ?_); rintro e w' ⟨rfl, hb⟩; obtain ⟨hc, hf⟩ := bcell hb; have hz : w.heap.size ≤ w'.heap.size := (by have := hb.size; (try simp at this); omega); have hB : Below w.heap.size w w' := Below.trans (by go_grown) (hb.mono (by go_size)))
  go_returns
  exact ⟨rfl, by go_grown⟩

theorem speed_1 {p m l f : Int} (h : motorOk p m l = false) : speedC p m l f = 1 ∧ speedV' p m l f = 0 := by
  have e : speedC p m l f = 1 := by unfold speedC; rw [h]; rfl
  exact ⟨e, by unfold speedV'; rw [e]; rfl⟩
theorem speed_2 {p m l f : Int} (h : motorOk p m l = true) (h' : inB f (-1000000) 1000000 = false) : speedC p m l f = 2 ∧ speedV' p m l f = 0 := by
  have e : speedC p m l f = 2 := by unfold speedC; rw [h, h']; rfl
  exact ⟨e, by unfold speedV'; rw [e]; rfl⟩
theorem speed_6 {p m l f : Int} (h : motorOk p m l = true) (h' : inB f (-1000000) 1000000 = true) (hm : m < f) : speedC p m l f = 6 ∧ speedV' p m l f = 0 := by
  have e : speedC p m l f = 6 := by unfold speedC; rw [h, h', if_pos rfl, if_pos rfl, if_pos hm]
  exact ⟨e, by unfold speedV'; rw [e]; rfl⟩
theorem speed_0 {p m l f : Int} (h : motorOk p m l = true) (h' : inB f (-1000000) 1000000 = true) (hm : ¬ m < f) : speedC p m l f = 0 ∧ speedV' p m l f = (fastN p m l f : Int) - 1 := by
  have e : speedC p m l f = 0 := by unfold speedC; rw [h, h', if_pos rfl, if_pos rfl, if_neg hm]
  exact ⟨e, by unfold speedV'; rw [e, if_pos rfl]⟩
set_option maxHeartbeats 1000000 in
theorem impl_SpeedWith (p m l f : Int) (w : World) :
    Calls Tryz.prog 6 #[.agg #[.int .i64 p, .int .i64 m, .int .i64 l], .int .i64 f] w fun e w' => e = .returned (.tuple #[.int .i64 (speedV' p m l f), .int .i64 (speedC p m l f)]) ∧ Below w.heap.size w w' := by
  have kf := fun W => impl_isForce f W
  have km := fun fine W => impl_motored p m l fine W
  cases hk : motorOk p m l
  · obtain ⟨e1, e2⟩ := speed_1 (f := f) hk
    rw [e1, e2]
    clear e1 e2
    rw [hk] at km
    cases hf : inB f (-1000000) 1000000 <;> rw [hf] at kf
    all_goals
      go_enter Tryz.func6, Tryz.ntmps6
      go_wp2
      (refine wp_region_cls (by kernel_rfl) (by kernel_rfl) ?_; (repeat (go_big_quiet_step ((first | (go_at_call 20; exact cls_S (kf _)) | (go_at_call 19; exact cls_B (km _ _)))))); refine wpQuiet_nil ?_; rintro _ ⟨u, rfl⟩; have hb := u.below; generalize u.w = w' at *; obtain ⟨hc, hf⟩ := bcell hb; have hz : w.heap.size < w'.heap.size := (by have := hb.size; (try simp at this); omega); have hz1 : w.heap.size + 1 < w'.heap.size := (by have := hb.size; (try simp at this); omega); have hB : Below w.heap.size w w' := Below.trans (by go_grown) (hb.mono (by go_size)))
      go_wp2
      go_returns
      exact ⟨rfl, by go_grown⟩
  · rw [hk] at km
    cases hf : inB f (-1000000) 1000000
    · obtain ⟨e1, e2⟩ := speed_2 hk hf
      rw [e1, e2]
      clear e1 e2
      rw [hf] at kf
      go_enter Tryz.func6, Tryz.ntmps6
      go_wp2
      (refine wp_region_cls (by kernel_rfl) (by kernel_rfl) ?_; (repeat (go_big_quiet_step ((first | (go_at_call 20; exact cls_S (kf _)) | (go_at_call 19; exact cls_B (km _ _)))))); refine wpQuiet_nil ?_; rintro _ ⟨u, rfl⟩; have hb := u.below; generalize u.w = w' at *; obtain ⟨hc, hf⟩ := bcell hb; have hz : w.heap.size < w'.heap.size := (by have := hb.size; (try simp at this); omega); have hz1 : w.heap.size + 1 < w'.heap.size := (by have := hb.size; (try simp at this); omega); have hB : Below w.heap.size w w' := Below.trans (by go_grown) (hb.mono (by go_size)))
      go_wp2
      go_returns
      exact ⟨rfl, by go_grown⟩
    · rw [hf] at kf
      by_cases hm : m < f
      · obtain ⟨e1, e2⟩ := speed_6 hk hf hm
        rw [e1, e2]
        clear e1 e2
        go_enter Tryz.func6, Tryz.ntmps6
        go_wp2
        (refine wp_region_cls (by kernel_rfl) (by kernel_rfl) ?_; (repeat (go_big_quiet_step ((first | (go_at_call 20; exact cls_S (kf _)) | (go_at_call 19; exact cls_B (km _ _)))))); refine wpQuiet_nil ?_; rintro _ ⟨u, rfl⟩; have hb := u.below; generalize u.w = w' at *; obtain ⟨hc, hf⟩ := bcell hb; have hz : w.heap.size < w'.heap.size := (by have := hb.size; (try simp at this); omega); have hz1 : w.heap.size + 1 < w'.heap.size := (by have := hb.size; (try simp at this); omega); have hB : Below w.heap.size w w' := Below.trans (by go_grown) (hb.mono (by go_size)))
        go_wp2
        go_returns
        exact ⟨rfl, by go_grown⟩
      · obtain ⟨e1, e2⟩ := speed_0 hk hf hm
        rw [e1, e2]
        clear e1 e2
        have f1 := inB_true.1 hf
        obtain ⟨_, _, l0, l1⟩ := motorOk_bd hk
        have n1 := fast_pos hk hm
        have n2 := fast_bd p m l f
        have hl := fun x h0 h => @fast_low p m l f x h0 h
        have hh := fun x h h1 => @fast_high p m l f x hk h h1
        have cl := fun W (z : w.heap.size + 1 < W.heap.size) k0 k1 k2 k3 => impl_least_SpeedWith_1 (fun s => !canV p m l f s) 0 20000 (fastN p m l f) (.pointer (some ⟨w.heap.size, 0, none⟩)) (.pointer (some ⟨w.heap.size + 1, 0, none⟩)) W (by omega) (by omega) (by omega) (by omega)
          (fun x hx hx' => by show (!canV p m l f x) = false; rw [hl x hx hx']; rfl) (fun x hx hx' => by show (!canV p m l f x) = true; rw [hh x hx hx']; rfl)
          (fun s W' hs hs' hB => impl_SpeedWith_1 w.heap.size (w.heap.size + 1) p m l f s W' f1.1 f1.2 hs hs' l0 l1 ((hB.cell (p := ⟨w.heap.size, 0, none⟩) (show w.heap.size < W.heap.size by omega)).trans k0) ((hB.cell (p := ⟨w.heap.size, 1, none⟩) (show w.heap.size < W.heap.size by omega)).trans k1) ((hB.cell (p := ⟨w.heap.size, 2, none⟩) (show w.heap.size < W.heap.size by omega)).trans k2) ((hB.cell (p := ⟨w.heap.size + 1, 0, none⟩) (show w.heap.size + 1 < W.heap.size by omega)).trans k3))
        generalize fastN p m l f = U at *
        clear hl hh
        go_enter Tryz.func6, Tryz.ntmps6
        go_wp2
        (refine wp_region_cls (by kernel_rfl) (by kernel_rfl) ?_; (repeat (go_big_quiet_step ((first | (go_at_call 20; exact cls_S (kf _)) | (go_at_call 19; exact cls_B (km _ _)))))); refine wpQuiet_nil ?_; rintro _ ⟨u, rfl⟩; have hb := u.below; generalize u.w = w' at *; obtain ⟨hc, hf⟩ := bcell hb; have hz : w.heap.size < w'.heap.size := (by have := hb.size; (try simp at this); omega); have hz1 : w.heap.size + 1 < w'.heap.size := (by have := hb.size; (try simp at this); omega); have hB : Below w.heap.size w w' := Below.trans (by go_grown) (hb.mono (by go_size)))
        go_wp2_with (go_at_call 21; (with_reducible refine (cl _ (by omega) (by go_cell) (by go_cell) (by go_cell) (by go_cell)).mono ?_); rintro e w' ⟨rfl, hb⟩; obtain ⟨hc, hf⟩ := bcell hb; have hz : w.heap.size < w'.heap.size := (by have := hb.size; (try simp at this); omega); have hz1 : w.heap.size + 1 < w'.heap.size := (by have := hb.size; (try simp at this); omega); have hB : Below w.heap.size w w' := Below.trans (by go_grown) (hb.mono (by go_size)))
        go_returns
        exact ⟨rfl, by go_grown⟩

theorem en_1 {p m l s t : Int} {F : Nat → Int} {n : Nat} (h : motorOk p m l = false) : enC p m l s t F n = 1 := by unfold enC; rw [h]; rfl
theorem en_2 {p m l s t : Int} {F : Nat → Int} {n : Nat} (h : motorOk p m l = true) (h' : (forcesOk F n && (inB s 0 20000 && inB t 0 100000)) = false) : enC p m l s t F n = 2 := by unfold enC; rw [h, h']; rfl
theorem en_6 {p m l s t : Int} {F : Nat → Int} {n : Nat} (h : motorOk p m l = true) (h' : (forcesOk F n && (inB s 0 20000 && inB t 0 100000)) = true) (hc : allCan p m l s F n = false) : enC p m l s t F n = 6 := by unfold enC; rw [h, h', hc]; rfl
theorem en_0 {p m l s t : Int} {F : Nat → Int} {n : Nat} (h : motorOk p m l = true) (h' : (forcesOk F n && (inB s 0 20000 && inB t 0 100000)) = true) (hc : allCan p m l s F n = true) : enC p m l s t F n = 0 := by unfold enC; rw [h, h', hc]; rfl
theorem en_no {p m l s t : Int} {F : Nat → Int} {n : Nat} {c : Int} (h : enC p m l s t F n = c) (hc : c ≠ 0) : enP p m l s t F n = 0 ∧ enN p m l s t F n = 0 := by unfold enP enN; rw [h, if_neg hc, if_neg hc]; exact ⟨rfl, rfl⟩
theorem forces_at {F : Nat → Int} {n : Nat} (h : forcesOk F n = true) : n ≤ 60 ∧ ∀ j, j < n → -1000000 ≤ F j ∧ F j ≤ 1000000 := by
  unfold forcesOk at h
  rw [Bool.and_eq_true, decide_eq_true_eq] at h
  refine ⟨h.1, fun j hj => ?_⟩
  have a := any_false.1 (show any (fun j => !inB (F j) (-1000000) 1000000) n = false by simpa using h.2) j hj
  exact inB_true.1 (show inB (F j) (-1000000) 1000000 = true by simpa using a)
theorem posS_succ (l s : Int) (F : Nat → Int) (k : Nat) : posS l s F (k + 1) = posS l s F k + max 0 (powV l (F k) s) := rfl
theorem negS_succ (l s : Int) (F : Nat → Int) (k : Nat) : negS l s F (k + 1) = negS l s F k + max 0 (-powV l (F k) s) := rfl
set_option maxHeartbeats 4000000 in
set_option maxRecDepth 100000 in
theorem impl_energy (p m l s t : Int) (a : Option Addr) (n c : Nat) (F : Nat → Int) (w : World) (hz : IntsAt w a n F) (hn : n ≤ 1048576) :
    Calls Tryz.prog 29 #[.agg #[.int .i64 p, .int .i64 m, .int .i64 l], .slice a n c, .int .i64 s, .int .i64 t] w
      fun e w' => e = .returned (.tuple #[.int .i64 (enP p m l s t F n), .int .i64 (enN p m l s t F n), .int .i64 (enC p m l s t F n)]) ∧ Below w.heap.size w w' := by
  have ka := fun W h => impl_areForces a n c F W h hn
  have ks := fun W => impl_isPace s W
  have kt := fun W => impl_within t 0 100000 W
  have km := fun fine W => impl_motored p m l fine W
  have hz1 : ∀ W, Below w.heap.size w W → IntsAt W a n F := fun W h => hz.below h
  cases hk : motorOk p m l
  · have e1 := en_1 (s := s) (t := t) (F := F) (n := n) hk
    obtain ⟨e2, e3⟩ := en_no e1 (by decide)
    rw [e1, e2, e3]
    clear e1 e2 e3
    rw [hk] at km
    generalize forcesOk F n = A at *
    cases A <;> cases hs : inB s 0 20000 <;> cases ht : inB t 0 100000 <;> rw [hs] at ks <;> rw [ht] at kt
    all_goals
      go_enter Tryz.func29, Tryz.ntmps29
      go_wp2
      (refine wp_region_cls (by kernel_rfl) (by kernel_rfl) ?_; (repeat (go_big_quiet_step ((first | (go_at_call 34; exact cls_S (ka _ ((hz.below (by go_grown)).below (Cls.below _)))) | (go_at_call 24; exact cls_S (ks _)) | (go_at_call 42; exact cls_S (kt _)) | (go_at_call 19; exact cls_B (km _ _)))))); refine wpQuiet_nil ?_; rintro _ ⟨u, rfl⟩; have hb := u.below; generalize u.w = w' at *; obtain ⟨hc, hf⟩ := bcell hb; have hz : w.heap.size < w'.heap.size := (by have := hb.size; (try simp at this); omega); have hB : Below w.heap.size w w' := Below.trans (by go_grown) (hb.mono (by go_size)))
      go_wp2
      go_returns
      exact ⟨rfl, by go_grown⟩
  · rw [hk] at km
    cases hfs : (forcesOk F n && (inB s 0 20000 && inB t 0 100000))
    · have e1 := en_2 hk hfs
      obtain ⟨e2, e3⟩ := en_no e1 (by decide)
      rw [e1, e2, e3]
      clear e1 e2 e3
      generalize forcesOk F n = A at *
      cases A <;> cases hs : inB s 0 20000 <;> cases ht : inB t 0 100000 <;> rw [hs] at ks <;> rw [ht] at kt <;> simp [hs, ht] at hfs
      all_goals
        go_enter Tryz.func29, Tryz.ntmps29
        go_wp2
        (refine wp_region_cls (by kernel_rfl) (by kernel_rfl) ?_; (repeat (go_big_quiet_step ((first | (go_at_call 34; exact cls_S (ka _ ((hz.below (by go_grown)).below (Cls.below _)))) | (go_at_call 24; exact cls_S (ks _)) | (go_at_call 42; exact cls_S (kt _)) | (go_at_call 19; exact cls_B (km _ _)))))); refine wpQuiet_nil ?_; rintro _ ⟨u, rfl⟩; have hb := u.below; generalize u.w = w' at *; obtain ⟨hc, hf⟩ := bcell hb; have hz : w.heap.size < w'.heap.size := (by have := hb.size; (try simp at this); omega); have hB : Below w.heap.size w w' := Below.trans (by go_grown) (hb.mono (by go_size)))
        go_wp2
        go_returns
        exact ⟨rfl, by go_grown⟩
    · have hfs' := hfs
      rw [Bool.and_eq_true, Bool.and_eq_true] at hfs'
      obtain ⟨hf, hs, ht⟩ := hfs'
      obtain ⟨n60, hF⟩ := forces_at hf
      have s1 := inB_true.1 hs
      have t1 := inB_true.1 ht
      obtain ⟨_, _, l0, l1⟩ := motorOk_bd hk
      rw [hf] at ka
      rw [hs] at ks
      rw [ht] at kt
      have hpw := fun j (hj : j < n) => pow_bd (l := l) (f := F j) (s := s) (hF j hj).1 (hF j hj).2 s1.1 s1.2 l0 l1
      have HS := Lib.hid (sums_bd (n := n) hpw)
      have HPW := Lib.hid hpw
      have HF := Lib.hid hF
      have HC0 := Lib.hid (fun h => en_0 (s := s) (t := t) (F := F) (n := n) hk hfs h)
      have HC6 := Lib.hid (fun h => en_6 (s := s) (t := t) (F := F) (n := n) hk hfs h)
      have HR := Lib.hid hz1
      clear hz1 hpw hF hf hs ht hfs
      go_enter Tryz.func29, Tryz.ntmps29
      go_wp2
      (refine wp_region_cls (by kernel_rfl) (by kernel_rfl) ?_; (repeat (go_big_quiet_step ((first | (go_at_call 34; exact cls_S (ka _ ((hz.below (by go_grown)).below (Cls.below _)))) | (go_at_call 24; exact cls_S (ks _)) | (go_at_call 42; exact cls_S (kt _)) | (go_at_call 19; exact cls_B (km _ _)))))); refine wpQuiet_nil ?_; rintro _ ⟨u, rfl⟩; have hb := u.below; generalize u.w = w' at *; obtain ⟨hc, hf⟩ := bcell hb; have hz : w.heap.size < w'.heap.size := (by have := hb.size; (try simp at this); omega); have hB : Below w.heap.size w w' := Below.trans (by go_grown) (hb.mono (by go_size)))
      have cA0 : w'.cell? ⟨w.heap.size, 0, none⟩ = some (.int .i64 p) := by go_cell
      have cA1 : w'.cell? ⟨w.heap.size, 1, none⟩ = some (.int .i64 m) := by go_cell
      have cA2 : w'.cell? ⟨w.heap.size, 2, none⟩ = some (.int .i64 l) := by go_cell
      have lA : w.heap.size < w'.heap.size := by go_size
      clear hc hf hb ka ks kt km
      go_wp2_with fail
      go_loopw [12, 13, 34] (fun x y i wr => ∃ k : Nat, k ≤ n ∧ x = .int .i64 (posS l s F k) ∧ y = .int .i64 (negS l s F k) ∧ i = .int .i64 (k : Int) ∧ (∀ j, j < k → canV p m l (F j) s = true) ∧ Below w'.heap.size w' wr) (fun _ _ i _ => n - (intOf i).toNat)
      case atStart => exact ⟨0, by omega, rfl, rfl, rfl, fun j hj => absurd hj (by omega), Below.refl _ _⟩
      case round => as_aux_lemma =>
        obtain ⟨k, hk', rfl, rfl, rfl, hall, hBr⟩ := hrel
        have HA := Lib.hid hall
        clear hall
        have c0 := (hBr.cell (p := ⟨w.heap.size, 0, none⟩) lA).trans cA0
        have c1 := (hBr.cell (p := ⟨w.heap.size, 1, none⟩) lA).trans cA1
        have c2 := (hBr.cell (p := ⟨w.heap.size, 2, none⟩) lA).trans cA2
        have hBw := hB.trans (hBr.mono hB.size)
        by_cases hlt : k < n
        · obtain ⟨b, o, ea, hb, hcz⟩ := HR.out _ hBw (by omega)
          subst ea
          have ck := hcz k hlt
          obtain ⟨f1, f2⟩ := HF.out k hlt
          obtain ⟨q1, q2⟩ := HPW.out k hlt
          obtain ⟨⟨u1, u2⟩, ⟨v1, v2⟩, _⟩ := HS.out k (by omega)
          have kc := fun W => impl_canDo p m l (F k) s W f1 f2 s1.1 s1.2 l0 l1
          have kp := fun W => impl_power p m l (F k) s W f1 f2 s1.1 s1.2 l0 l1
          have EP := Lib.hid (posS_succ l s F k)
          have EN := Lib.hid (negS_succ l s F k)
          have k0 : (k : Int) < (n : Int) := by omega
          clear hcz
          cases hcan : canV p m l (F k) s
          · rw [hcan] at kc
            have hno : allCan p m l s F n = false := by
              unfold allCan
              rw [any_true.2 ⟨k, hlt, by simp [hcan]⟩]; rfl
            have e1 := HC6.out hno
            obtain ⟨e2, e3⟩ := en_no e1 (by decide)
            have HE := Lib.hid (And.intro e1 (And.intro e2 e3))
            clear e1 e2 e3 hno hcan
            generalize posS l s F k = PS at *
            generalize negS l s F k = NS at *
            generalize powV l (F k) s = V at *
            generalize F k = f at *
            go_wp2_with fail
            refine (kc _).mono ?_
            rintro e w2 ⟨rfl, hb2⟩
            clear c0 c1 c2 ck
            go_wp2_with fail
            refine bodyPost_ret (by simp [results, Tryz.results29, go_sem, *]; try rfl) rfl ?_
            exact ⟨by rw [HE.out.1, HE.out.2.1, HE.out.2.2], hBw.trans (hb2.mono hBw.size)⟩
          · rw [hcan] at kc
            have HX := Lib.hid (fun j (hj : j < k + 1) => show canV p m l (F j) s = true by
              rcases (show j < k ∨ j = k by omega) with h1 | rfl
              · exact HA.out j h1
              · exact hcan)
            clear hcan
            generalize posS l s F k = PS at *
            generalize negS l s F k = NS at *
            generalize powV l (F k) s = V at *
            generalize F k = f at *
            go_wp2_with fail
            refine (kc _).mono ?_
            rintro e w2 ⟨rfl, hb2⟩
            clear c0 c1 c2 ck
            have hBr2 := hBr.trans (hb2.mono hBr.size)
            have c0 := (hBr2.cell (p := ⟨w.heap.size, 0, none⟩) lA).trans cA0
            have c1 := (hBr2.cell (p := ⟨w.heap.size, 1, none⟩) lA).trans cA1
            have c2 := (hBr2.cell (p := ⟨w.heap.size, 2, none⟩) lA).trans cA2
            go_wp2_with fail
            refine (kp _).mono ?_
            rintro e w3 ⟨rfl, hb3⟩
            clear c0 c1 c2
            have hBr3 := hBr2.trans (hb3.mono hBr2.size)
            by_cases hV : 0 ≤ V
            · have m1 : max 0 V = V := by omega
              have m2 : max 0 (-V) = 0 := by omega
              rw [m1] at EP
              rw [m2] at EN
              go_wp2
              go_roundw
              case rel => exact ⟨k + 1, by omega, by rw [EP.out] <;> (congr 1; (try split) <;> omega), by rw [EN.out] <;> (congr 1; (try split) <;> omega), by go_num, HX.out, hBr3⟩
              case measure => simp [intOf]; omega
            · have m1 : max 0 V = 0 := by omega
              have m2 : max 0 (-V) = -V := by omega
              rw [m1] at EP
              rw [m2] at EN
              go_wp2
              go_roundw
              case rel => exact ⟨k + 1, by omega, by rw [EP.out] <;> (congr 1; (try split) <;> omega), by rw [EN.out] <;> (congr 1; (try split) <;> omega), by go_num, HX.out, hBr3⟩
              case measure => simp [intOf]; omega
        · obtain rfl : k = n := by omega
          have hyes : allCan p m l s F k = true := by
            unfold allCan
            rw [any_false.2 (fun j hj => by rw [HA.out j hj]; rfl)]; rfl
          have e1 := HC0.out hyes
          have e2 : enP p m l s t F k = posS l s F k * t := by unfold enP; rw [if_pos e1]
          have e3 : enN p m l s t F k = negS l s F k * t := by unfold enN; rw [if_pos e1]
          obtain ⟨⟨u1, u2⟩, ⟨v1, v2⟩, _⟩ := HS.out k (Nat.le_refl _)
          have mb1 := mul_bd (x := posS l s F k) (a := 1200000000000) (b := 100000) u1 (by omega) t1.1 t1.2
          have mb2 := mul_bd (x := negS l s F k) (a := 1200000000) (b := 100000) v1 (by omega) t1.1 t1.2
          have HE := Lib.hid (And.intro e1 (And.intro e2 e3))
          clear e1 e2 e3 hyes
          generalize posS l s F k = PS at *
          generalize negS l s F k = NS at *
          go_wp2
          refine bodyPost_ret (by simp [results, Tryz.results29, go_sem, *]; try rfl) rfl ?_
          exact ⟨by rw [HE.out.1, HE.out.2.1, HE.out.2.2], hBw⟩

theorem impl_EnergyFor (p m l s t : Int) (a : Option Addr) (n c : Nat) (F : Nat → Int) (w : World) (hz : IntsAt w a n F) (hn : n ≤ 1048576) :
    Calls Tryz.prog 9 #[.agg #[.int .i64 p, .int .i64 m, .int .i64 l], .slice a n c, .int .i64 s, .int .i64 t] w
      fun e w' => e = .returned (.tuple #[.int .i64 (enP p m l s t F n), .int .i64 (enC p m l s t F n)]) ∧ Below w.heap.size w w' := by
  have ke := fun W h => impl_energy p m l s t a n c F W h hn
  generalize enP p m l s t F n = X at *
  generalize enN p m l s t F n = Y at *
  generalize enC p m l s t F n = Z at *
  go_enter Tryz.func9, Tryz.ntmps9
  go_wp2_with (go_at_call 29; (with_reducible refine (ke _ (hz.below (by go_grown))).mono ?_); rintro e w' ⟨rfl, hb⟩; obtain ⟨hc, hf⟩ := bcell hb; have hz : w.heap.size < w'.heap.size := (by have := hb.size; (try simp at this); omega); have hB : Below w.heap.size w w' := Below.trans (by go_grown) (hb.mono (by go_size)))
  go_returns
  exact ⟨rfl, by go_grown⟩

theorem impl_EnergyBack (p m l s t : Int) (a : Option Addr) (n c : Nat) (F : Nat → Int) (w : World) (hz : IntsAt w a n F) (hn : n ≤ 1048576) :
    Calls Tryz.prog 10 #[.agg #[.int .i64 p, .int .i64 m, .int .i64 l], .slice a n c, .int .i64 s, .int .i64 t] w
      fun e w' => e = .returned (.tuple #[.int .i64 (enN p m l s t F n), .int .i64 (enC p m l s t F n)]) ∧ Below w.heap.size w w' := by
  have ke := fun W h => impl_energy p m l s t a n c F W h hn
  generalize enP p m l s t F n = X at *
  generalize enN p m l s t F n = Y at *
  generalize enC p m l s t F n = Z at *
  go_enter Tryz.func10, Tryz.ntmps10
  go_wp2_with (go_at_call 29; (with_reducible refine (ke _ (hz.below (by go_grown))).mono ?_); rintro e w' ⟨rfl, hb⟩; obtain ⟨hc, hf⟩ := bcell hb; have hz : w.heap.size < w'.heap.size := (by have := hb.size; (try simp at this); omega); have hB : Below w.heap.size w w' := Below.trans (by go_grown) (hb.mono (by go_size)))
  go_returns
  exact ⟨rfl, by go_grown⟩

set_option maxHeartbeats 2000000 in
set_option maxRecDepth 100000 in
/-- For a valid motor and forces that are as stated. -/
theorem impl_HardestPull_ok (p m l : Int) (a : Option Addr) (n c : Nat) (F : Nat → Int) (w : World) (hz : IntsAt w a n F) (hk : motorOk p m l = true) (hf : forcesOk F n = true) :
    Calls Tryz.prog 12 #[.agg #[.int .i64 p, .int .i64 m, .int .i64 l], .slice a n c] w
      fun e w' => e = .returned (.tuple #[.int .i64 (bestF F n : Int), .int .i64 (if n = 0 then 0 else absF (F (bestF F n))), .int .i64 (if n = 0 then 3 else 0)]) ∧ Below w.heap.size w w' := by
  obtain ⟨n60, hF⟩ := forces_at hf
  have ka := fun W h => impl_areForces a n c F W h (by omega)
  have km := fun fine W => impl_motored p m l fine W
  rw [hk] at km
  rw [hf] at ka
  have HF := Lib.hid hF
  clear hF hf hk
  by_cases h0 : n = 0
  · subst h0
    rw [if_pos rfl, if_pos rfl]
    have hr : bestF F 0 = 0 := rfl
    rw [hr]
    go_enter Tryz.func12, Tryz.ntmps12
    go_wp2
    (refine wp_region_cls (by kernel_rfl) (by kernel_rfl) ?_; (repeat (go_big_quiet_step ((first | (go_at_call 34; exact cls_S (ka _ ((hz.below (by go_grown)).below (Cls.below _)))) | (go_at_call 19; exact cls_B (km _ _)))))); refine wpQuiet_nil ?_; rintro _ ⟨u, rfl⟩; have hb := u.below; generalize u.w = w' at *; obtain ⟨hc, hf⟩ := bcell hb; have hz : w.heap.size < w'.heap.size := (by have := hb.size; (try simp at this); omega); have hB : Below w.heap.size w w' := Below.trans (by go_grown) (hb.mono (by go_size)))
    go_wp2
    go_returns
    exact ⟨rfl, by go_grown⟩
  · rw [if_neg h0, if_neg h0]
    obtain ⟨b, o, ea, hbl0, hcz⟩ := id hz (by omega)
    subst ea
    have HC := Lib.hid hcz
    have hn0 : ((n : Int) == 0) = false := beq_eq_false_iff_ne.2 (by omega)
    clear hcz
    go_enter Tryz.func12, Tryz.ntmps12
    go_wp2
    (refine wp_region_cls (by kernel_rfl) (by kernel_rfl) ?_; (repeat (go_big_quiet_step ((first | (go_at_call 34; exact cls_S (ka _ ((hz.below (by go_grown)).below (Cls.below _)))) | (go_at_call 19; exact cls_B (km _ _)))))); refine wpQuiet_nil ?_; rintro _ ⟨u, rfl⟩; have hb := u.below; generalize u.w = w' at *; obtain ⟨hc, hf⟩ := bcell hb; have hz : w.heap.size < w'.heap.size := (by have := hb.size; (try simp at this); omega); have hB : Below w.heap.size w w' := Below.trans (by go_grown) (hb.mono (by go_size)))
    clear hc hf hz hb ka km
    go_wp2_with fail
    go_loopw [8, 23] (fun x i wr => ∃ k : Nat, k ≤ n ∧ x = .int .i64 (bestF F k : Int) ∧ i = .int .i64 (k : Int) ∧ Below w.heap.size w wr) (fun _ i _ => n - (intOf i).toNat)
    case atStart => exact ⟨0, by omega, rfl, rfl, hB⟩
    case round => as_aux_lemma =>
      clear hB
      obtain ⟨k, hk', rfl, rfl, hB⟩ := hrel
      have lb : b < wr.heap.size := Nat.lt_of_lt_of_le hbl0 hB.size
      by_cases hlt : k < n
      · have hbl : bestF F k < n := by
          rcases k with _ | k
          · show 0 < n; omega
          · have := bestF_lt F k; omega
        have ck := (hB.cell (p := ⟨b, o + k, none⟩) hbl0).trans (HC.out k hlt)
        have cb := (hB.cell (p := ⟨b, o + bestF F k, none⟩) hbl0).trans (HC.out _ hbl)
        have EB := Lib.hid (bestF_succ F k)
        obtain ⟨x1, x2⟩ := HF.out k hlt
        obtain ⟨y1, y2⟩ := HF.out _ hbl
        have k1 := fun W => (impl_abs (F k) W (by omega) (by omega)).mono (fun e w' h => (⟨h.1, h.2.symm⟩ : e = _ ∧ W = w'))
        have k2 := fun W => (impl_abs (F (bestF F k)) W (by omega) (by omega)).mono (fun e w' h => (⟨h.1, h.2.symm⟩ : e = _ ∧ W = w'))
        rw [show (if F k < 0 then -F k else F k) = absF (F k) from rfl] at k1
        rw [show (if F (bestF F k) < 0 then -F (bestF F k) else F (bestF F k)) = absF (F (bestF F k)) from rfl] at k2
        have g1 : 0 ≤ absF (F k) ∧ absF (F k) ≤ 1000000 := by unfold absF; split <;> omega
        have g2 : 0 ≤ absF (F (bestF F k)) ∧ absF (F (bestF F k)) ≤ 1000000 := by unfold absF; split <;> omega
        have k0 : (k : Int) < (n : Int) := by omega
        have kb0 : (bestF F k : Int) < (n : Int) := by omega
        by_cases hlt2 : absF (F (bestF F k)) < absF (F k)
        · rw [if_pos hlt2] at EB
          generalize absF (F k) = X at *
          generalize absF (F (bestF F k)) = Y at *
          generalize F (bestF F k) = fb at *
          generalize bestF F k = B at *
          generalize F k = fk at *
          go_wp2
          (refine wp_region_cls (by kernel_rfl) (by kernel_rfl) ?_; (repeat (go_big_quiet_step ((first | (go_at_call 35; exact cls_S (k1 _)) | (go_at_call 35; exact cls_S (k2 _)))))); refine wpQuiet_nil ?_; rintro _ ⟨u, rfl⟩; have hb := u.below; have hB := hB.trans (hb.mono hB.size); generalize u.w = w' at *; obtain ⟨hc, hf, hs⟩ := bkeep hb)
          go_wp2
          go_roundw
          case rel => exact ⟨k + 1, by omega, by rw [EB.out], by go_num, hB⟩
          case measure => simp [intOf]; omega
        · rw [if_neg hlt2] at EB
          generalize absF (F k) = X at *
          generalize absF (F (bestF F k)) = Y at *
          generalize F (bestF F k) = fb at *
          generalize bestF F k = B at *
          generalize F k = fk at *
          go_wp2
          (refine wp_region_cls (by kernel_rfl) (by kernel_rfl) ?_; (repeat (go_big_quiet_step ((first | (go_at_call 35; exact cls_S (k1 _)) | (go_at_call 35; exact cls_S (k2 _)))))); refine wpQuiet_nil ?_; rintro _ ⟨u, rfl⟩; have hb := u.below; have hB := hB.trans (hb.mono hB.size); generalize u.w = w' at *; obtain ⟨hc, hf, hs⟩ := bkeep hb)
          go_wp2
          go_roundw
          case rel => exact ⟨k + 1, by omega, by rw [EB.out], by go_num, hB⟩
          case measure => simp [intOf]; omega
      · obtain rfl : k = n := by omega
        have hbl : bestF F k < k := by
          rcases k with _ | k
          · omega
          · exact bestF_lt F k
        have cb := (hB.cell (p := ⟨b, o + bestF F k, none⟩) hbl0).trans (HC.out _ hbl)
        obtain ⟨y1, y2⟩ := HF.out _ hbl
        have k2 := fun W => (impl_abs (F (bestF F k)) W (by omega) (by omega)).mono (fun e w' h => (⟨h.1, h.2.symm⟩ : e = _ ∧ W = w'))
        rw [show (if F (bestF F k) < 0 then -F (bestF F k) else F (bestF F k)) = absF (F (bestF F k)) from rfl] at k2
        have g2 : 0 ≤ absF (F (bestF F k)) ∧ absF (F (bestF F k)) ≤ 1000000 := by unfold absF; split <;> omega
        have kb0 : (bestF F k : Int) < (k : Int) := by omega
        generalize hYe : absF (F (bestF F k)) = Y at *
        generalize hBe : bestF F k = B at *
        generalize hFe : F B = fb at *
        have HE := Lib.hid (And.intro hBe (And.intro hFe hYe))
        clear hBe hFe hYe
        go_wp2_with (go_at_call 35; (with_reducible refine (k2 _).mono ?_); rintro e w' ⟨rfl, rfl⟩)
        refine bodyPost_ret (by simp [results, Tryz.results12, go_sem, *]; try rfl) rfl ?_
        exact ⟨by rw [HE.out.1, HE.out.2.1, HE.out.2.2], hB⟩

end Go.Proofs.YtejhngkbkcalaaaGreatDoor
