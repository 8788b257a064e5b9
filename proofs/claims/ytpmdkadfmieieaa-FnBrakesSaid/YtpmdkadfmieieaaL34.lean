/-
  The walk of the law of brakes: safe speeds, least brakings, both brakes together.
-/
import Derived.Test.YtpmdkadfmieieaaBr
import Derived.Test.YtpmdkadfmieieaaKL
import Derived.Test.YtpmdkadfmieieaaKD
import Derived.Test.YtpmdkadfmieieaaKB
namespace Go.Proofs.Ytpmdkadfmieieaa
open Go.RowKit
set_option linter.unusedVariables false
set_option linter.unusedSimpArgs false

theorem upV_pos {a b : Int} (ha : 1 ≤ a) (hb : 1 ≤ b) : 1 ≤ upV a b := by
  unfold upV
  rw [Int.le_ediv_iff_mul_le (by omega)]; omega
theorem wayV_zero {d F s : Int} (hd : 0 ≤ d) (hF : 0 < F) (h0 : 0 ≤ s) : (wayV d F s == 0) = (s == 0) := by
  by_cases hs : s = 0
  · subst hs
    have : wayV d F 0 = 0 := by
      unfold wayV upV
      rw [Int.zero_mul, Int.zero_mul]
      rw [Int.ediv_eq_zero_of_lt (by omega) (by omega), Int.ediv_eq_zero_of_lt (by omega) (by omega)]; rfl
    rw [this]
  · have h1 : 0 ≤ s * d := Int.mul_nonneg h0 hd
    have h2 : 1 ≤ s * s := by have := Int.mul_le_mul (show (1 : Int) ≤ s by omega) (show (1 : Int) ≤ s by omega) (by omega) (by omega); omega
    have h3 := (upV_bound h1 (show (1 : Int) ≤ 10 by omega)).1
    have h4 := upV_pos h2 (show 1 ≤ 2 * F by omega)
    have : wayV d F s ≠ 0 := by unfold wayV; omega
    rw [beq_eq_false_iff_ne.2 this, beq_eq_false_iff_ne.2 hs]
theorem wayV_mono {d F s s' : Int} (hd : 0 ≤ d) (hF : 0 < F) (h0 : 0 ≤ s) (h : s ≤ s') : wayV d F s ≤ wayV d F s' := by
  unfold wayV
  have h1 : s * d ≤ s' * d := Int.mul_le_mul_of_nonneg_right h hd
  have h2 : s * s ≤ s' * s' := Int.mul_le_mul h h h0 (by omega)
  have := upV_mono h1 (show (1 : Int) ≤ 10 by omega)
  have := upV_mono h2 (show 1 ≤ 2 * F by omega)
  omega
theorem wayV_anti {d F F' s : Int} (hF : 0 < F) (h : F ≤ F') (h0 : 0 ≤ s) : wayV d F' s ≤ wayV d F s := by
  unfold wayV
  have := upV_anti (Int.mul_nonneg h0 h0) (show 1 ≤ 2 * F by omega) (show 2 * F ≤ 2 * F' by omega)
  omega
theorem wayV_nonneg {d F s : Int} (hd : 0 ≤ d) (hF : 0 < F) (h0 : 0 ≤ s) : 0 ≤ wayV d F s := by
  unfold wayV
  have := (upV_bound (Int.mul_nonneg h0 hd) (show (1 : Int) ≤ 10 by omega)).1
  have := (upV_bound (Int.mul_nonneg h0 h0) (show 1 ≤ 2 * F by omega)).1
  omega
theorem force_down {f g : Int} {down : Bool} (h1 : 1 ≤ f) (h3 : 0 ≤ g) : forceV f g down ≤ forceV f g false := by
  cases down
  · exact Int.le_refl _
  · have := force_up h1 h3
    have hn : 0 ≤ nearV (g * 981) 100 := (near_bound (by omega) (by omega)).1
    unfold forceV
    simp
    omega
section
variable {d f s g room : Int} {down : Bool}
/-- A brake that is drawn, and what is asked of it. -/
structure BrIn (d f s g room : Int) : Prop where
  d0 : 0 ≤ d
  d1 : d ≤ 14
  f0 : 500 ≤ f
  f1 : f ≤ 8400
  s0 : 0 ≤ s
  s1 : s ≤ 11990
  g0 : 0 ≤ g
  g1 : g ≤ 590
  r0 : 0 ≤ room
  r1 : room ≤ 49999
theorem BrIn.vb (h : BrIn d f s g room) : validBrake d f = true := by
  obtain ⟨_, _, _, _, _, _, _, _, _, _⟩ := h
  unfold validBrake; rw [Bool.and_eq_true, inB_true, inB_true]; omega
theorem BrIn.up (h : BrIn d f s g room) : stopCode d f s g false = 0 ∧ stopWayV d f s g false = wayV d (forceV f g false) s := by
  have hv := h.vb
  obtain ⟨_, _, _, _, _, _, _, _, _, _⟩ := h
  have := force_up (show 1 ≤ f by omega) (show 0 ≤ g by omega)
  have h3 := stop_0 (down := false) hv (inB_true.2 (show 0 ≤ s ∧ s ≤ 15000 by omega)) (inB_true.2 (show 0 ≤ g ∧ g ≤ 900 by omega)) (by omega)
  exact ⟨h3.1, h3.2.1⟩
theorem BrIn.bad (h : BrIn d f s g room) (hF : forceV f g down ≤ 0) : (stopCode d f s g down = 3 ∧ stopWayV d f s g down = 0 ∧ stopTenthsV d f s g down = 0) ∧ stopCode d f (s + 10) g down = 3 ∧ safeCode d f room g down = 3 := by
  have hv := h.vb
  obtain ⟨_, _, _, _, _, _, _, _, _, _⟩ := h
  have hg := inB_true.2 (show 0 ≤ g ∧ g ≤ 900 by omega)
  refine ⟨stop_3 hv (inB_true.2 (by omega)) hg hF, (stop_3 hv (inB_true.2 (by omega)) hg hF).1, (safe_3 (askWay_0 hv ?_) hF).1⟩
  rw [hg, inB_true.2 (show 0 ≤ room ∧ room ≤ 3000000 by omega)]; rfl
theorem BrIn.good (h : BrIn d f s g room) (hF : ¬ forceV f g down ≤ 0) : (stopCode d f s g down = 0 ∧ stopWayV d f s g down = wayV d (forceV f g down) s ∧ stopTenthsV d f s g down = d + upV (10 * s) (forceV f g down)) ∧
    (stopCode d f (s + 10) g down = 0 ∧ stopWayV d f (s + 10) g down = wayV d (forceV f g down) (s + 10)) ∧ safeCode d f room g down = 0 ∧ safeV d f room g down = (unsafeV d f room g down : Int) - 1 := by
  have hv := h.vb
  obtain ⟨_, _, _, _, _, _, _, _, _, _⟩ := h
  have hg := inB_true.2 (show 0 ≤ g ∧ g ≤ 900 by omega)
  have h2 := stop_0 (s := s + 10) hv (inB_true.2 (by omega)) hg hF
  have h3 := safe_0 (d := d) (f := f) (way := room) (g := g) (down := down) (askWay_0 hv (by rw [hg, inB_true.2 (show 0 ≤ room ∧ room ≤ 3000000 by omega)]; rfl)) hF
  exact ⟨stop_0 hv (inB_true.2 (by omega)) hg hF, ⟨h2.1, h2.2.1⟩, h3.1, h3.2⟩
theorem within_is {d f s way g : Int} {down : Bool} : withinV d f s way g down = true ↔ 0 < forceV f g down ∧ wayV d (forceV f g down) s ≤ way := by unfold withinV; simp
theorem BrIn.safe (h : BrIn d f s g room) (hF : ¬ forceV f g down ≤ 0) : 0 ≤ safeV d f room g down ∧ safeV d f room g down ≤ 15000 ∧ stopCode d f (safeV d f room g down) g down = 0 ∧ stopWayV d f (safeV d f room g down) g down ≤ room ∧
    (stopCode d f (safeV d f room g down + 1) g down = 0 → room < stopWayV d f (safeV d f room g down + 1) g down) := by
  have hv := h.vb
  have hs := (h.good hF).2.2.2
  obtain ⟨_, _, _, _, _, _, _, _, _, _⟩ := h
  have hg := inB_true.2 (show 0 ≤ g ∧ g ≤ 900 by omega)
  have u0 := unsafe_pos (d := d) (f := f) (way := room) (g := g) (down := down) (by omega) (by omega)
  have u1 := unsafe_le d f room g down
  have hlt := fun m h0 hm => unsafe_lt (d := d) (f := f) (way := room) (g := g) (down := down) (m := m) h0 hm
  have hge := fun m hm h1 => unsafe_ge (d := d) (f := f) (way := room) (g := g) (down := down) (m := m) (by omega) hm h1
  generalize safeV d f room g down = S at *
  generalize unsafeV d f room g down = u at *
  have hw := within_is.1 (hlt S (by omega) (by omega))
  have h1 := stop_0 (s := S) hv (inB_true.2 (by omega)) hg hF
  refine ⟨by omega, by omega, h1.1, by rw [h1.2.1]; exact hw.2, fun hc => ?_⟩
  by_cases h5 : S + 1 ≤ 15000
  · have h2 := stop_0 (s := S + 1) hv (inB_true.2 (by omega)) hg hF
    rw [h2.2.1]
    have := hge (S + 1) (by omega) h5
    refine Int.not_le.1 fun hle => ?_
    rw [within_is.2 ⟨by omega, hle⟩] at this; cases this
  · have h2 := stop_2 (s := S + 1) (g := g) (down := down) hv (by rw [Bool.and_eq_false_iff]; exact .inl (inB_false.2 (by omega)))
    rw [h2.1] at hc; cases hc
theorem BrIn.least (h : BrIn d f s g room) : (leastCode d f s room g down = 0 ∧ 1 ≤ leastV d f s room g down ∧ leastV d f s room g down ≤ 10000 ∧ stopCode d (leastV d f s room g down) s g down = 0 ∧ stopWayV d (leastV d f s room g down) s g down ≤ room ∧
      (stopCode d (leastV d f s room g down - 1) s g down = 0 → room < stopWayV d (leastV d f s room g down - 1) s g down)) ∨
    (leastCode d f s room g down = 3 ∧ (stopCode d f s g down = 0 → room < stopWayV d f s g down)) := by
  have hv := h.vb
  obtain ⟨_, _, _, _, _, _, _, _, _, _⟩ := h
  have hg := inB_true.2 (show 0 ≤ g ∧ g ≤ 900 by omega)
  have hs := inB_true.2 (show 0 ≤ s ∧ s ≤ 15000 by omega)
  have ha := askLeast_0 (d := d) (f := f) (s := s) (way := room) (g := g) hv (by rw [hs, hg, inB_true.2 (show 0 ≤ room ∧ room ≤ 3000000 by omega)]; rfl)
  have hvm : ∀ m, 1 ≤ m → m ≤ 10000 → validBrake d m = true := fun m h1 h2 => by unfold validBrake; rw [Bool.and_eq_true, inB_true, inB_true]; omega
  have hno : ∀ m, 1 ≤ m → m ≤ 10000 → withinV d m s room g down = false → stopCode d m s g down = 0 → room < stopWayV d m s g down := fun m h1 h2 hw hc => by
    by_cases hp : forceV m g down ≤ 0
    · rw [(stop_3 (hvm m h1 h2) hs hg hp).1] at hc; cases hc
    · rw [(stop_0 (hvm m h1 h2) hs hg hp).2.1]
      refine Int.not_le.1 fun hle => ?_
      rw [within_is.2 ⟨by omega, hle⟩] at hw; cases hw
  by_cases hl : leastN d s room g down < 10000
  · left
    obtain ⟨c0, c1⟩ := least_0 (f := f) ha hl
    have hge := least_ge (d := d) (s := s) (way := room) (g := g) (down := down) (m := (leastN d s room g down : Int) + 1) (by omega) (by omega) (by omega)
    have hlt := fun h0 => least_lt (d := d) (s := s) (way := room) (g := g) (down := down) (m := (leastN d s room g down : Int)) h0 (by omega)
    rw [c1]
    have hN : (0 : Int) ≤ (leastN d s room g down : Int) ∧ (leastN d s room g down : Int) < 10000 := by omega
    generalize (leastN d s room g down : Int) = N at *
    have hw := within_is.1 hge
    have h1 := stop_0 (d := d) (f := N + 1) (s := s) (g := g) (down := down) (hvm _ (by omega) (by omega)) hs hg (by omega)
    refine ⟨c0, by omega, by omega, h1.1, by rw [h1.2.1]; exact hw.2, ?_⟩
    rw [show N + 1 - 1 = N by omega]
    intro hc
    by_cases h0 : 1 ≤ N
    · exact hno N h0 (by omega) (hlt h0) hc
    · have hb : validBrake d N = false := by unfold validBrake; rw [Bool.and_eq_false_iff]; exact .inr (inB_false.2 (by omega))
      rw [(stop_1 hb).1] at hc; cases hc
  · right
    have hle := least_le d s room g down
    exact ⟨(least_3 (f := f) ha hl).1, fun hc => hno f (by omega) (by omega) (least_lt (by omega) (by omega)) hc⟩
end
theorem both_facts {d f d' f' : Int} (h0 : 0 ≤ d) (h1 : d ≤ 14) (h2 : 500 ≤ f) (h3 : f ≤ 8400) (g0 : 0 ≤ d') (g1 : d' ≤ 14) (g2 : 500 ≤ f') (g3 : f' ≤ 8400) :
    (bothCode d f d' f' = 0 ∧ bothDecel d f d' f' = f + f' ∧ bothDelay d f d' f' = max d d' ∧ validBrake (max d d') (f + f') = true) ∨ (bothCode d f d' f' = 5 ∧ 10000 < f + f') := by
  have hv : validBrake d f = true := by unfold validBrake; rw [Bool.and_eq_true, inB_true, inB_true]; omega
  have hv' : validBrake d' f' = true := by unfold validBrake; rw [Bool.and_eq_true, inB_true, inB_true]; omega
  cases hb : validBrake (max d d') (f + f')
  · right
    refine ⟨(both_5 hv hv' hb).1, ?_⟩
    unfold validBrake at hb
    rw [Bool.and_eq_false_iff, inB_false, inB_false] at hb
    omega
  · left
    obtain ⟨a, b, c⟩ := both_0 hv hv' hb
    exact ⟨a, c, b, rfl⟩
theorem valid_of {d d' F : Int} (h : validBrake (max d d') F = true) (d0 : 0 ≤ d) (d1 : d ≤ 14) (d0' : 0 ≤ d') (d1' : d' ≤ 14) : validBrake d F = true ∧ validBrake d' F = true := by
  unfold validBrake at h ⊢
  rw [Bool.and_eq_true, inB_true, inB_true] at h
  rw [Bool.and_eq_true, Bool.and_eq_true, inB_true, inB_true, inB_true]
  omega

set_option maxRecDepth 100000 in
set_option maxHeartbeats 16000000 in
theorem law_FnBrakes (a0 : Option Addr) (n0 c0 : Nat) (a1 : Option Addr) (n1 c1 : Nat) (w : World) (hz0 : BytesAt w a0 n0) (hz1 : BytesAt w a1 n1) :
    Calls Try.prog 5 #[.slice a0 n0 c0, .slice a1 n1 c1] w fun e w' => e = .returned (.bool true) ∧ Below w.heap.size w w' := by
  have kl := fun W => laws_r8Long a0 a1 n0 n1 c0 c1 W
  by_cases hlen : n0 ≤ 1048576 ∧ n1 ≤ 1048576
  · rw [decide_eq_false (show ¬ 1048576 < n0 by omega), decide_eq_false (show ¬ 1048576 < n1 by omega), Bool.or_false] at kl
    go_enter Try.func5, Try.ntmps5
    go_wp2_with (first | (go_at_call 9; (with_reducible refine (kl _).mono ?_); rintro e w' ⟨rfl, rfl⟩) | fail)
    refine (spec_R8Brake a0 n0 c0 _ hz0 hlen.1).mono ?_
    rintro e wa ⟨d, f, rfl, d0, d1, f0, f1, hba⟩
    have sa := hba.size
    go_wp2_with fail
    refine (spec_R8Brake a1 n1 c1 _ ((hz1.below hba).below (Below.alloc (Below.refl _ _) (Nat.le_refl _) _)) hlen.2).mono ?_
    rintro e wb ⟨d', f', rfl, d0', d1', f0', f1', hbb⟩
    have sb : wa.heap.size < wb.heap.size := Nat.lt_of_lt_of_le (by simp) hbb.size
    have q0 : wb.cell? ⟨wa.heap.size, 0, none⟩ = some (.int .i64 d) := (hbb.cell (p := ⟨wa.heap.size, 0, none⟩) (by simp)).trans (by go_cell)
    have q1 : wb.cell? ⟨wa.heap.size, 1, none⟩ = some (.int .i64 f) := (hbb.cell (p := ⟨wa.heap.size, 1, none⟩) (by simp)).trans (by go_cell)
    have hBb : Below w.heap.size w wb := (hba.alloc sa _).trans (hbb.mono (by simp; omega))
    have hzb := hz1.below hBb
    clear hba hbb
    go_wp2_with fail
    have hzc : BytesAt (wb.alloc (Obj.cells #[.int .i64 d', .int .i64 f'] 46)) a1 n1 := hzb.below (Below.alloc (Below.refl _ _) (Nat.le_refl _) _)
    have hBc : Below w.heap.size w (wb.alloc (Obj.cells #[.int .i64 d', .int .i64 f'] 46)) := hBb.alloc hBb.size _
    have cB0 : (wb.alloc (Obj.cells #[.int .i64 d', .int .i64 f'] 46)).cell? ⟨wa.heap.size, 0, none⟩ = some (.int .i64 d) := by go_cell
    have cB1 : (wb.alloc (Obj.cells #[.int .i64 d', .int .i64 f'] 46)).cell? ⟨wa.heap.size, 1, none⟩ = some (.int .i64 f) := by go_cell
    have cO0 : (wb.alloc (Obj.cells #[.int .i64 d', .int .i64 f'] 46)).cell? ⟨wb.heap.size, 0, none⟩ = some (.int .i64 d') := by go_cell
    have cO1 : (wb.alloc (Obj.cells #[.int .i64 d', .int .i64 f'] 46)).cell? ⟨wb.heap.size, 1, none⟩ = some (.int .i64 f') := by go_cell
    have lB : wa.heap.size < (wb.alloc (Obj.cells #[.int .i64 d', .int .i64 f'] 46)).heap.size := by simp; omega
    have lO : wb.heap.size < (wb.alloc (Obj.cells #[.int .i64 d', .int .i64 f'] 46)).heap.size := by simp
    generalize wb.alloc (Obj.cells #[.int .i64 d', .int .i64 f'] 46) = w2 at *
    clear q0 q1 hBb hzb hz0 hz1 kl sb
    generalize wa.heap.size = B at *
    generalize wb.heap.size = O at *
    refine (laws_r8At a1 n1 c1 20 60 _ hzc hlen.2 (by omega) (by omega) (by omega)).mono ?_
    rintro e w' ⟨g, rfl, g0, g1, rfl⟩
    go_wp2_with fail
    refine (laws_r8At a1 n1 c1 21 2 _ hzc hlen.2 (by omega) (by omega) (by omega)).mono ?_
    rintro e w' ⟨v, rfl, v0, v1, rfl⟩
    go_wp2_with fail
    refine (laws_r8Wide a1 n1 c1 22 1200 _ hzc hlen.2 (by omega) (by omega) (by omega) (by omega)).mono ?_
    rintro e w' ⟨s, rfl, s0, s1, rfl⟩
    generalize (v == 1) = down at *
    have hBw := hBc
    clear hBc
    have h0 : BrIn d f (10 * s) (10 * g) 0 := ⟨d0, d1, f0, f1, by omega, by omega, by omega, by omega, by omega, by omega⟩
    have hin := fun room (r0 : 0 ≤ room) (r1 : room < 50000) => (⟨d0, d1, f0, f1, by omega, by omega, by omega, by omega, r0, by omega⟩ : BrIn d f (10 * s) (10 * g) room)
    have k1 := fun W => impl_StopWay d f (10 * s) (10 * g) down W
    have k2 := fun W => impl_StopTenths d f (10 * s) (10 * g) down W
    have k3 := fun W => impl_StopWay d f (10 * s) (10 * g) false W
    have k4 := fun W => impl_StopWay d f (10 * s + 10) (10 * g) down W
    have kv := fun d f W => spec_ValidBrake d f W
    have kb := fun W => impl_BothBrakes d f d' f' W
    have kr := fun W hW => laws_r8Wide a1 n1 c1 24 50000 W hW hlen.2 (by omega) (by omega) (by omega) (by omega)
    obtain ⟨u0, u1⟩ := h0.up
    rw [u0, u1] at k3
    have hU := wayV_nonneg (d := d) (F := forceV f (10 * g) false) (s := 10 * s) d0 (by have := force_up (f := f) (g := 10 * g) (by omega) (by omega); omega) (by omega)
    by_cases hF : forceV f (10 * g) down ≤ 0
    · obtain ⟨⟨e1, e2, e3⟩, e4, _⟩ := h0.bad hF
      rw [e1, e2] at k1
      rw [e1, e3] at k2
      rw [e4] at k4
      generalize stopWayV d f (10 * s + 10) (10 * g) down = Fa at *
      generalize wayV d (forceV f (10 * g) false) (10 * s) = U at *
      go_wp2_with (first | (go_at_call 25; (with_reducible refine (k1 _).mono ?_); rintro e w' ⟨rfl, hb⟩; replace cB0 := (hb.cell (p := ⟨B, 0, none⟩) lB).trans cB0; replace cB1 := (hb.cell (p := ⟨B, 1, none⟩) lB).trans cB1; replace cO0 := (hb.cell (p := ⟨O, 0, none⟩) lO).trans cO0; replace cO1 := (hb.cell (p := ⟨O, 1, none⟩) lO).trans cO1; replace lB := Nat.lt_of_lt_of_le lB hb.size; replace lO := Nat.lt_of_lt_of_le lO hb.size; replace hBw := hBw.trans (hb.mono hBw.size); replace hzc := hzc.below hb; clear hb) | (go_at_call 26; (with_reducible refine (k2 _).mono ?_); rintro e w' ⟨rfl, hb⟩; replace cB0 := (hb.cell (p := ⟨B, 0, none⟩) lB).trans cB0; replace cB1 := (hb.cell (p := ⟨B, 1, none⟩) lB).trans cB1; replace cO0 := (hb.cell (p := ⟨O, 0, none⟩) lO).trans cO0; replace cO1 := (hb.cell (p := ⟨O, 1, none⟩) lO).trans cO1; replace lB := Nat.lt_of_lt_of_le lB hb.size; replace lO := Nat.lt_of_lt_of_le lO hb.size; replace hBw := hBw.trans (hb.mono hBw.size); replace hzc := hzc.below hb; clear hb) | (go_at_call 25; (with_reducible refine (k3 _).mono ?_); rintro e w' ⟨rfl, hb⟩; replace cB0 := (hb.cell (p := ⟨B, 0, none⟩) lB).trans cB0; replace cB1 := (hb.cell (p := ⟨B, 1, none⟩) lB).trans cB1; replace cO0 := (hb.cell (p := ⟨O, 0, none⟩) lO).trans cO0; replace cO1 := (hb.cell (p := ⟨O, 1, none⟩) lO).trans cO1; replace lB := Nat.lt_of_lt_of_le lB hb.size; replace lO := Nat.lt_of_lt_of_le lO hb.size; replace hBw := hBw.trans (hb.mono hBw.size); replace hzc := hzc.below hb; clear hb) | (go_at_call 25; (with_reducible refine (k4 _).mono ?_); rintro e w' ⟨rfl, hb⟩; replace cB0 := (hb.cell (p := ⟨B, 0, none⟩) lB).trans cB0; replace cB1 := (hb.cell (p := ⟨B, 1, none⟩) lB).trans cB1; replace cO0 := (hb.cell (p := ⟨O, 0, none⟩) lO).trans cO0; replace cO1 := (hb.cell (p := ⟨O, 1, none⟩) lO).trans cO1; replace lB := Nat.lt_of_lt_of_le lB hb.size; replace lO := Nat.lt_of_lt_of_le lO hb.size; replace hBw := hBw.trans (hb.mono hBw.size); replace hzc := hzc.below hb; clear hb) | fail)
      refine (kr _ hzc).mono ?_
      rintro e w' ⟨room, rfl, r0, r1, rfl⟩
      have k5 := fun W => impl_SafeSpeed d f room (10 * g) down W
      rw [((hin room r0 r1).bad hF).2.2] at k5
      generalize safeV d f room (10 * g) down = S at *
      clear k1 k2 k3 k4 e1 e2 e3 e4 h0
      have k8 := fun W => impl_LeastDecel d f (10 * s) room (10 * g) down W
      rcases (hin room r0 r1).least (down := down) with ⟨l0, l1, l2, l3, l4, l5⟩ | ⟨l0, l1⟩
      · rw [l0] at k8
        generalize leastV d f (10 * s) room (10 * g) down = L at *
        have k9 := fun W => spec_StopWay d L (10 * s) (10 * g) down W
        rw [l3] at k9
        have k10 := fun W => spec_StopWay d (L - 1) (10 * s) (10 * g) down W
        generalize stopWayV d L (10 * s) (10 * g) down = X2 at *
        generalize stopWayV d (L - 1) (10 * s) (10 * g) down = Y2 at *
        generalize stopCode d (L - 1) (10 * s) (10 * g) down = H2 at *
        rcases both_facts d0 d1 f0 f1 d0' d1' f0' f1' with ⟨b0, b1, b2, b3⟩ | ⟨b0, b1⟩
        · rw [b0, b1, b2] at kb
          have kvA := fun W => kv d (f + f') W
          have kvB := fun W => kv d' (f + f') W
          rw [(valid_of b3 d0 d1 d0' d1').1] at kvA
          rw [(valid_of b3 d0 d1 d0' d1').2] at kvB
          clear b0 b1 b2 b3
          go_wp2_with (first | (go_at_call 27; (with_reducible refine (k5 _).mono ?_); rintro e w' ⟨rfl, hb⟩; replace cB0 := (hb.cell (p := ⟨B, 0, none⟩) lB).trans cB0; replace cB1 := (hb.cell (p := ⟨B, 1, none⟩) lB).trans cB1; replace cO0 := (hb.cell (p := ⟨O, 0, none⟩) lO).trans cO0; replace cO1 := (hb.cell (p := ⟨O, 1, none⟩) lO).trans cO1; replace lB := Nat.lt_of_lt_of_le lB hb.size; replace lO := Nat.lt_of_lt_of_le lO hb.size; replace hBw := hBw.trans (hb.mono hBw.size); replace hzc := hzc.below hb; clear hb) | (go_at_call 29; (with_reducible refine (k8 _).mono ?_); rintro e w' ⟨rfl, hb⟩; replace cB0 := (hb.cell (p := ⟨B, 0, none⟩) lB).trans cB0; replace cB1 := (hb.cell (p := ⟨B, 1, none⟩) lB).trans cB1; replace cO0 := (hb.cell (p := ⟨O, 0, none⟩) lO).trans cO0; replace cO1 := (hb.cell (p := ⟨O, 1, none⟩) lO).trans cO1; replace lB := Nat.lt_of_lt_of_le lB hb.size; replace lO := Nat.lt_of_lt_of_le lO hb.size; replace hBw := hBw.trans (hb.mono hBw.size); replace hzc := hzc.below hb; clear hb) | (go_at_call 28; (with_reducible refine (k9 _).mono ?_); rintro e w' ⟨rfl, hb⟩; replace cB0 := (hb.cell (p := ⟨B, 0, none⟩) lB).trans cB0; replace cB1 := (hb.cell (p := ⟨B, 1, none⟩) lB).trans cB1; replace cO0 := (hb.cell (p := ⟨O, 0, none⟩) lO).trans cO0; replace cO1 := (hb.cell (p := ⟨O, 1, none⟩) lO).trans cO1; replace lB := Nat.lt_of_lt_of_le lB hb.size; replace lO := Nat.lt_of_lt_of_le lO hb.size; replace hBw := hBw.trans (hb.mono hBw.size); replace hzc := hzc.below hb; clear hb) | (go_at_call 28; (with_reducible refine (k10 _).mono ?_); rintro e w' ⟨rfl, hb⟩; replace cB0 := (hb.cell (p := ⟨B, 0, none⟩) lB).trans cB0; replace cB1 := (hb.cell (p := ⟨B, 1, none⟩) lB).trans cB1; replace cO0 := (hb.cell (p := ⟨O, 0, none⟩) lO).trans cO0; replace cO1 := (hb.cell (p := ⟨O, 1, none⟩) lO).trans cO1; replace lB := Nat.lt_of_lt_of_le lB hb.size; replace lO := Nat.lt_of_lt_of_le lO hb.size; replace hBw := hBw.trans (hb.mono hBw.size); replace hzc := hzc.below hb; clear hb) | (go_at_call 30; (with_reducible refine (kb _).mono ?_); rintro e w' ⟨rfl, hb⟩; replace cB0 := (hb.cell (p := ⟨B, 0, none⟩) lB).trans cB0; replace cB1 := (hb.cell (p := ⟨B, 1, none⟩) lB).trans cB1; replace cO0 := (hb.cell (p := ⟨O, 0, none⟩) lO).trans cO0; replace cO1 := (hb.cell (p := ⟨O, 1, none⟩) lO).trans cO1; replace lB := Nat.lt_of_lt_of_le lB hb.size; replace lO := Nat.lt_of_lt_of_le lO hb.size; replace hBw := hBw.trans (hb.mono hBw.size); replace hzc := hzc.below hb; clear hb) | (go_at_call 31; (with_reducible refine (kvA _).mono ?_); rintro e w9 ⟨rfl, hb9⟩) | (go_at_call 31; (with_reducible refine (kvB _).mono ?_); rintro e w9 ⟨rfl, hb9⟩))
          all_goals (try (exfalso; omega))
          all_goals
            go_returns
            exact ⟨by first | rfl | simp, (hBw.alloc hBw.size _).trans (hb9.mono (by have := hBw.size; simp; omega))⟩
        · rw [b0] at kb
          generalize bothDelay d f d' f' = bd at *
          generalize bothDecel d f d' f' = bf at *
          clear b0
          go_wp2_with (first | (go_at_call 27; (with_reducible refine (k5 _).mono ?_); rintro e w' ⟨rfl, hb⟩; replace cB0 := (hb.cell (p := ⟨B, 0, none⟩) lB).trans cB0; replace cB1 := (hb.cell (p := ⟨B, 1, none⟩) lB).trans cB1; replace cO0 := (hb.cell (p := ⟨O, 0, none⟩) lO).trans cO0; replace cO1 := (hb.cell (p := ⟨O, 1, none⟩) lO).trans cO1; replace lB := Nat.lt_of_lt_of_le lB hb.size; replace lO := Nat.lt_of_lt_of_le lO hb.size; replace hBw := hBw.trans (hb.mono hBw.size); replace hzc := hzc.below hb; clear hb) | (go_at_call 29; (with_reducible refine (k8 _).mono ?_); rintro e w' ⟨rfl, hb⟩; replace cB0 := (hb.cell (p := ⟨B, 0, none⟩) lB).trans cB0; replace cB1 := (hb.cell (p := ⟨B, 1, none⟩) lB).trans cB1; replace cO0 := (hb.cell (p := ⟨O, 0, none⟩) lO).trans cO0; replace cO1 := (hb.cell (p := ⟨O, 1, none⟩) lO).trans cO1; replace lB := Nat.lt_of_lt_of_le lB hb.size; replace lO := Nat.lt_of_lt_of_le lO hb.size; replace hBw := hBw.trans (hb.mono hBw.size); replace hzc := hzc.below hb; clear hb) | (go_at_call 28; (with_reducible refine (k9 _).mono ?_); rintro e w' ⟨rfl, hb⟩; replace cB0 := (hb.cell (p := ⟨B, 0, none⟩) lB).trans cB0; replace cB1 := (hb.cell (p := ⟨B, 1, none⟩) lB).trans cB1; replace cO0 := (hb.cell (p := ⟨O, 0, none⟩) lO).trans cO0; replace cO1 := (hb.cell (p := ⟨O, 1, none⟩) lO).trans cO1; replace lB := Nat.lt_of_lt_of_le lB hb.size; replace lO := Nat.lt_of_lt_of_le lO hb.size; replace hBw := hBw.trans (hb.mono hBw.size); replace hzc := hzc.below hb; clear hb) | (go_at_call 28; (with_reducible refine (k10 _).mono ?_); rintro e w' ⟨rfl, hb⟩; replace cB0 := (hb.cell (p := ⟨B, 0, none⟩) lB).trans cB0; replace cB1 := (hb.cell (p := ⟨B, 1, none⟩) lB).trans cB1; replace cO0 := (hb.cell (p := ⟨O, 0, none⟩) lO).trans cO0; replace cO1 := (hb.cell (p := ⟨O, 1, none⟩) lO).trans cO1; replace lB := Nat.lt_of_lt_of_le lB hb.size; replace lO := Nat.lt_of_lt_of_le lO hb.size; replace hBw := hBw.trans (hb.mono hBw.size); replace hzc := hzc.below hb; clear hb) | (go_at_call 30; (with_reducible refine (kb _).mono ?_); rintro e w' ⟨rfl, hb⟩; replace cB0 := (hb.cell (p := ⟨B, 0, none⟩) lB).trans cB0; replace cB1 := (hb.cell (p := ⟨B, 1, none⟩) lB).trans cB1; replace cO0 := (hb.cell (p := ⟨O, 0, none⟩) lO).trans cO0; replace cO1 := (hb.cell (p := ⟨O, 1, none⟩) lO).trans cO1; replace lB := Nat.lt_of_lt_of_le lB hb.size; replace lO := Nat.lt_of_lt_of_le lO hb.size; replace hBw := hBw.trans (hb.mono hBw.size); replace hzc := hzc.below hb; clear hb))
          all_goals (try (exfalso; omega))
          all_goals
            go_returns
            exact ⟨by first | rfl | simp, hBw.alloc hBw.size _⟩
      · rw [l0] at k8
        clear l1
        generalize leastV d f (10 * s) room (10 * g) down = L at *
        rcases both_facts d0 d1 f0 f1 d0' d1' f0' f1' with ⟨b0, b1, b2, b3⟩ | ⟨b0, b1⟩
        · rw [b0, b1, b2] at kb
          have kvA := fun W => kv d (f + f') W
          have kvB := fun W => kv d' (f + f') W
          rw [(valid_of b3 d0 d1 d0' d1').1] at kvA
          rw [(valid_of b3 d0 d1 d0' d1').2] at kvB
          clear b0 b1 b2 b3
          go_wp2_with (first | (go_at_call 27; (with_reducible refine (k5 _).mono ?_); rintro e w' ⟨rfl, hb⟩; replace cB0 := (hb.cell (p := ⟨B, 0, none⟩) lB).trans cB0; replace cB1 := (hb.cell (p := ⟨B, 1, none⟩) lB).trans cB1; replace cO0 := (hb.cell (p := ⟨O, 0, none⟩) lO).trans cO0; replace cO1 := (hb.cell (p := ⟨O, 1, none⟩) lO).trans cO1; replace lB := Nat.lt_of_lt_of_le lB hb.size; replace lO := Nat.lt_of_lt_of_le lO hb.size; replace hBw := hBw.trans (hb.mono hBw.size); replace hzc := hzc.below hb; clear hb) | (go_at_call 29; (with_reducible refine (k8 _).mono ?_); rintro e w' ⟨rfl, hb⟩; replace cB0 := (hb.cell (p := ⟨B, 0, none⟩) lB).trans cB0; replace cB1 := (hb.cell (p := ⟨B, 1, none⟩) lB).trans cB1; replace cO0 := (hb.cell (p := ⟨O, 0, none⟩) lO).trans cO0; replace cO1 := (hb.cell (p := ⟨O, 1, none⟩) lO).trans cO1; replace lB := Nat.lt_of_lt_of_le lB hb.size; replace lO := Nat.lt_of_lt_of_le lO hb.size; replace hBw := hBw.trans (hb.mono hBw.size); replace hzc := hzc.below hb; clear hb) | (go_at_call 30; (with_reducible refine (kb _).mono ?_); rintro e w' ⟨rfl, hb⟩; replace cB0 := (hb.cell (p := ⟨B, 0, none⟩) lB).trans cB0; replace cB1 := (hb.cell (p := ⟨B, 1, none⟩) lB).trans cB1; replace cO0 := (hb.cell (p := ⟨O, 0, none⟩) lO).trans cO0; replace cO1 := (hb.cell (p := ⟨O, 1, none⟩) lO).trans cO1; replace lB := Nat.lt_of_lt_of_le lB hb.size; replace lO := Nat.lt_of_lt_of_le lO hb.size; replace hBw := hBw.trans (hb.mono hBw.size); replace hzc := hzc.below hb; clear hb) | (go_at_call 31; (with_reducible refine (kvA _).mono ?_); rintro e w9 ⟨rfl, hb9⟩) | (go_at_call 31; (with_reducible refine (kvB _).mono ?_); rintro e w9 ⟨rfl, hb9⟩))
          all_goals (try (exfalso; omega))
          all_goals
            go_returns
            exact ⟨by first | rfl | simp, (hBw.alloc hBw.size _).trans (hb9.mono (by have := hBw.size; simp; omega))⟩
        · rw [b0] at kb
          generalize bothDelay d f d' f' = bd at *
          generalize bothDecel d f d' f' = bf at *
          clear b0
          go_wp2_with (first | (go_at_call 27; (with_reducible refine (k5 _).mono ?_); rintro e w' ⟨rfl, hb⟩; replace cB0 := (hb.cell (p := ⟨B, 0, none⟩) lB).trans cB0; replace cB1 := (hb.cell (p := ⟨B, 1, none⟩) lB).trans cB1; replace cO0 := (hb.cell (p := ⟨O, 0, none⟩) lO).trans cO0; replace cO1 := (hb.cell (p := ⟨O, 1, none⟩) lO).trans cO1; replace lB := Nat.lt_of_lt_of_le lB hb.size; replace lO := Nat.lt_of_lt_of_le lO hb.size; replace hBw := hBw.trans (hb.mono hBw.size); replace hzc := hzc.below hb; clear hb) | (go_at_call 29; (with_reducible refine (k8 _).mono ?_); rintro e w' ⟨rfl, hb⟩; replace cB0 := (hb.cell (p := ⟨B, 0, none⟩) lB).trans cB0; replace cB1 := (hb.cell (p := ⟨B, 1, none⟩) lB).trans cB1; replace cO0 := (hb.cell (p := ⟨O, 0, none⟩) lO).trans cO0; replace cO1 := (hb.cell (p := ⟨O, 1, none⟩) lO).trans cO1; replace lB := Nat.lt_of_lt_of_le lB hb.size; replace lO := Nat.lt_of_lt_of_le lO hb.size; replace hBw := hBw.trans (hb.mono hBw.size); replace hzc := hzc.below hb; clear hb) | (go_at_call 30; (with_reducible refine (kb _).mono ?_); rintro e w' ⟨rfl, hb⟩; replace cB0 := (hb.cell (p := ⟨B, 0, none⟩) lB).trans cB0; replace cB1 := (hb.cell (p := ⟨B, 1, none⟩) lB).trans cB1; replace cO0 := (hb.cell (p := ⟨O, 0, none⟩) lO).trans cO0; replace cO1 := (hb.cell (p := ⟨O, 1, none⟩) lO).trans cO1; replace lB := Nat.lt_of_lt_of_le lB hb.size; replace lO := Nat.lt_of_lt_of_le lO hb.size; replace hBw := hBw.trans (hb.mono hBw.size); replace hzc := hzc.below hb; clear hb))
          all_goals (try (exfalso; omega))
          all_goals
            go_returns
            exact ⟨by first | rfl | simp, hBw.alloc hBw.size _⟩
    · obtain ⟨⟨e1, e2, e3⟩, ⟨e4, e5⟩, _, _⟩ := h0.good hF
      rw [e1, e2] at k1
      rw [e1, e3] at k2
      rw [e4, e5] at k4
      have hFp : 0 < forceV f (10 * g) down := by omega
      have hW := wayV_nonneg (d := d) (s := 10 * s) d0 hFp (by omega)
      have hE := wayV_zero (d := d) (s := 10 * s) d0 hFp (by omega)
      have hM := wayV_mono (d := d) (s := 10 * s) (s' := 10 * s + 10) d0 hFp (by omega) (by omega)
      have hA := wayV_anti (d := d) (s := 10 * s) hFp (force_down (down := down) (show 1 ≤ f by omega) (show 0 ≤ 10 * g by omega)) (by omega)
      have hT := (upV_bound (a := 10 * (10 * s)) (b := forceV f (10 * g) down) (by omega) (by omega)).1
      have hs2 := fun room r0 r1 => (hin room r0 r1).safe hF
      have hs3 := fun room r0 r1 => (hin room r0 r1).good hF
      have hTd : d ≤ d + upV (10 * (10 * s)) (forceV f (10 * g) down) := by omega
      generalize d + upV (10 * (10 * s)) (forceV f (10 * g) down) = T at *
      clear hT
      generalize wayV d (forceV f (10 * g) down) (10 * s + 10) = Fa at *
      generalize wayV d (forceV f (10 * g) false) (10 * s) = U at *
      generalize wayV d (forceV f (10 * g) down) (10 * s) = W at *
      go_wp2_with (first | (go_at_call 25; (with_reducible refine (k1 _).mono ?_); rintro e w' ⟨rfl, hb⟩; replace cB0 := (hb.cell (p := ⟨B, 0, none⟩) lB).trans cB0; replace cB1 := (hb.cell (p := ⟨B, 1, none⟩) lB).trans cB1; replace cO0 := (hb.cell (p := ⟨O, 0, none⟩) lO).trans cO0; replace cO1 := (hb.cell (p := ⟨O, 1, none⟩) lO).trans cO1; replace lB := Nat.lt_of_lt_of_le lB hb.size; replace lO := Nat.lt_of_lt_of_le lO hb.size; replace hBw := hBw.trans (hb.mono hBw.size); replace hzc := hzc.below hb; clear hb) | (go_at_call 26; (with_reducible refine (k2 _).mono ?_); rintro e w' ⟨rfl, hb⟩; replace cB0 := (hb.cell (p := ⟨B, 0, none⟩) lB).trans cB0; replace cB1 := (hb.cell (p := ⟨B, 1, none⟩) lB).trans cB1; replace cO0 := (hb.cell (p := ⟨O, 0, none⟩) lO).trans cO0; replace cO1 := (hb.cell (p := ⟨O, 1, none⟩) lO).trans cO1; replace lB := Nat.lt_of_lt_of_le lB hb.size; replace lO := Nat.lt_of_lt_of_le lO hb.size; replace hBw := hBw.trans (hb.mono hBw.size); replace hzc := hzc.below hb; clear hb) | (go_at_call 25; (with_reducible refine (k3 _).mono ?_); rintro e w' ⟨rfl, hb⟩; replace cB0 := (hb.cell (p := ⟨B, 0, none⟩) lB).trans cB0; replace cB1 := (hb.cell (p := ⟨B, 1, none⟩) lB).trans cB1; replace cO0 := (hb.cell (p := ⟨O, 0, none⟩) lO).trans cO0; replace cO1 := (hb.cell (p := ⟨O, 1, none⟩) lO).trans cO1; replace lB := Nat.lt_of_lt_of_le lB hb.size; replace lO := Nat.lt_of_lt_of_le lO hb.size; replace hBw := hBw.trans (hb.mono hBw.size); replace hzc := hzc.below hb; clear hb) | (go_at_call 25; (with_reducible refine (k4 _).mono ?_); rintro e w' ⟨rfl, hb⟩; replace cB0 := (hb.cell (p := ⟨B, 0, none⟩) lB).trans cB0; replace cB1 := (hb.cell (p := ⟨B, 1, none⟩) lB).trans cB1; replace cO0 := (hb.cell (p := ⟨O, 0, none⟩) lO).trans cO0; replace cO1 := (hb.cell (p := ⟨O, 1, none⟩) lO).trans cO1; replace lB := Nat.lt_of_lt_of_le lB hb.size; replace lO := Nat.lt_of_lt_of_le lO hb.size; replace hBw := hBw.trans (hb.mono hBw.size); replace hzc := hzc.below hb; clear hb) | fail)
      refine (kr _ hzc).mono ?_
      rintro e w' ⟨room, rfl, r0, r1, rfl⟩
      obtain ⟨t0, t1, t2, t3, t4⟩ := hs2 room r0 r1
      have k5 := fun W => impl_SafeSpeed d f room (10 * g) down W
      rw [(hs3 room r0 r1).2.2.1] at k5
      generalize safeV d f room (10 * g) down = S at *
      have k6 := fun W => spec_StopWay d f S (10 * g) down W
      rw [t2] at k6
      have k7 := fun W => spec_StopWay d f (S + 1) (10 * g) down W
      generalize stopWayV d f S (10 * g) down = X at *
      generalize stopWayV d f (S + 1) (10 * g) down = Y at *
      generalize stopCode d f (S + 1) (10 * g) down = H1 at *
      clear k1 k2 k3 k4 hs2 hs3 h0
      have k8 := fun W => impl_LeastDecel d f (10 * s) room (10 * g) down W
      rcases (hin room r0 r1).least (down := down) with ⟨l0, l1, l2, l3, l4, l5⟩ | ⟨l0, l1⟩
      · rw [l0] at k8
        generalize leastV d f (10 * s) room (10 * g) down = L at *
        have k9 := fun W => spec_StopWay d L (10 * s) (10 * g) down W
        rw [l3] at k9
        have k10 := fun W => spec_StopWay d (L - 1) (10 * s) (10 * g) down W
        generalize stopWayV d L (10 * s) (10 * g) down = X2 at *
        generalize stopWayV d (L - 1) (10 * s) (10 * g) down = Y2 at *
        generalize stopCode d (L - 1) (10 * s) (10 * g) down = H2 at *
        rcases both_facts d0 d1 f0 f1 d0' d1' f0' f1' with ⟨b0, b1, b2, b3⟩ | ⟨b0, b1⟩
        · rw [b0, b1, b2] at kb
          have kvA := fun W => kv d (f + f') W
          have kvB := fun W => kv d' (f + f') W
          rw [(valid_of b3 d0 d1 d0' d1').1] at kvA
          rw [(valid_of b3 d0 d1 d0' d1').2] at kvB
          clear b0 b1 b2 b3
          go_wp2_with (first | (go_at_call 27; (with_reducible refine (k5 _).mono ?_); rintro e w' ⟨rfl, hb⟩; replace cB0 := (hb.cell (p := ⟨B, 0, none⟩) lB).trans cB0; replace cB1 := (hb.cell (p := ⟨B, 1, none⟩) lB).trans cB1; replace cO0 := (hb.cell (p := ⟨O, 0, none⟩) lO).trans cO0; replace cO1 := (hb.cell (p := ⟨O, 1, none⟩) lO).trans cO1; replace lB := Nat.lt_of_lt_of_le lB hb.size; replace lO := Nat.lt_of_lt_of_le lO hb.size; replace hBw := hBw.trans (hb.mono hBw.size); replace hzc := hzc.below hb; clear hb) | (go_at_call 28; (with_reducible refine (k6 _).mono ?_); rintro e w' ⟨rfl, hb⟩; replace cB0 := (hb.cell (p := ⟨B, 0, none⟩) lB).trans cB0; replace cB1 := (hb.cell (p := ⟨B, 1, none⟩) lB).trans cB1; replace cO0 := (hb.cell (p := ⟨O, 0, none⟩) lO).trans cO0; replace cO1 := (hb.cell (p := ⟨O, 1, none⟩) lO).trans cO1; replace lB := Nat.lt_of_lt_of_le lB hb.size; replace lO := Nat.lt_of_lt_of_le lO hb.size; replace hBw := hBw.trans (hb.mono hBw.size); replace hzc := hzc.below hb; clear hb) | (go_at_call 28; (with_reducible refine (k7 _).mono ?_); rintro e w' ⟨rfl, hb⟩; replace cB0 := (hb.cell (p := ⟨B, 0, none⟩) lB).trans cB0; replace cB1 := (hb.cell (p := ⟨B, 1, none⟩) lB).trans cB1; replace cO0 := (hb.cell (p := ⟨O, 0, none⟩) lO).trans cO0; replace cO1 := (hb.cell (p := ⟨O, 1, none⟩) lO).trans cO1; replace lB := Nat.lt_of_lt_of_le lB hb.size; replace lO := Nat.lt_of_lt_of_le lO hb.size; replace hBw := hBw.trans (hb.mono hBw.size); replace hzc := hzc.below hb; clear hb) | (go_at_call 29; (with_reducible refine (k8 _).mono ?_); rintro e w' ⟨rfl, hb⟩; replace cB0 := (hb.cell (p := ⟨B, 0, none⟩) lB).trans cB0; replace cB1 := (hb.cell (p := ⟨B, 1, none⟩) lB).trans cB1; replace cO0 := (hb.cell (p := ⟨O, 0, none⟩) lO).trans cO0; replace cO1 := (hb.cell (p := ⟨O, 1, none⟩) lO).trans cO1; replace lB := Nat.lt_of_lt_of_le lB hb.size; replace lO := Nat.lt_of_lt_of_le lO hb.size; replace hBw := hBw.trans (hb.mono hBw.size); replace hzc := hzc.below hb; clear hb) | (go_at_call 28; (with_reducible refine (k9 _).mono ?_); rintro e w' ⟨rfl, hb⟩; replace cB0 := (hb.cell (p := ⟨B, 0, none⟩) lB).trans cB0; replace cB1 := (hb.cell (p := ⟨B, 1, none⟩) lB).trans cB1; replace cO0 := (hb.cell (p := ⟨O, 0, none⟩) lO).trans cO0; replace cO1 := (hb.cell (p := ⟨O, 1, none⟩) lO).trans cO1; replace lB := Nat.lt_of_lt_of_le lB hb.size; replace lO := Nat.lt_of_lt_of_le lO hb.size; replace hBw := hBw.trans (hb.mono hBw.size); replace hzc := hzc.below hb; clear hb) | (go_at_call 28; (with_reducible refine (k10 _).mono ?_); rintro e w' ⟨rfl, hb⟩; replace cB0 := (hb.cell (p := ⟨B, 0, none⟩) lB).trans cB0; replace cB1 := (hb.cell (p := ⟨B, 1, none⟩) lB).trans cB1; replace cO0 := (hb.cell (p := ⟨O, 0, none⟩) lO).trans cO0; replace cO1 := (hb.cell (p := ⟨O, 1, none⟩) lO).trans cO1; replace lB := Nat.lt_of_lt_of_le lB hb.size; replace lO := Nat.lt_of_lt_of_le lO hb.size; replace hBw := hBw.trans (hb.mono hBw.size); replace hzc := hzc.below hb; clear hb) | (go_at_call 30; (with_reducible refine (kb _).mono ?_); rintro e w' ⟨rfl, hb⟩; replace cB0 := (hb.cell (p := ⟨B, 0, none⟩) lB).trans cB0; replace cB1 := (hb.cell (p := ⟨B, 1, none⟩) lB).trans cB1; replace cO0 := (hb.cell (p := ⟨O, 0, none⟩) lO).trans cO0; replace cO1 := (hb.cell (p := ⟨O, 1, none⟩) lO).trans cO1; replace lB := Nat.lt_of_lt_of_le lB hb.size; replace lO := Nat.lt_of_lt_of_le lO hb.size; replace hBw := hBw.trans (hb.mono hBw.size); replace hzc := hzc.below hb; clear hb) | (go_at_call 31; (with_reducible refine (kvA _).mono ?_); rintro e w9 ⟨rfl, hb9⟩) | (go_at_call 31; (with_reducible refine (kvB _).mono ?_); rintro e w9 ⟨rfl, hb9⟩))
          all_goals (try (exfalso; omega))
          all_goals
            go_returns
            exact ⟨by first | rfl | simp, (hBw.alloc hBw.size _).trans (hb9.mono (by have := hBw.size; simp; omega))⟩
        · rw [b0] at kb
          generalize bothDelay d f d' f' = bd at *
          generalize bothDecel d f d' f' = bf at *
          clear b0
          go_wp2_with (first | (go_at_call 27; (with_reducible refine (k5 _).mono ?_); rintro e w' ⟨rfl, hb⟩; replace cB0 := (hb.cell (p := ⟨B, 0, none⟩) lB).trans cB0; replace cB1 := (hb.cell (p := ⟨B, 1, none⟩) lB).trans cB1; replace cO0 := (hb.cell (p := ⟨O, 0, none⟩) lO).trans cO0; replace cO1 := (hb.cell (p := ⟨O, 1, none⟩) lO).trans cO1; replace lB := Nat.lt_of_lt_of_le lB hb.size; replace lO := Nat.lt_of_lt_of_le lO hb.size; replace hBw := hBw.trans (hb.mono hBw.size); replace hzc := hzc.below hb; clear hb) | (go_at_call 28; (with_reducible refine (k6 _).mono ?_); rintro e w' ⟨rfl, hb⟩; replace cB0 := (hb.cell (p := ⟨B, 0, none⟩) lB).trans cB0; replace cB1 := (hb.cell (p := ⟨B, 1, none⟩) lB).trans cB1; replace cO0 := (hb.cell (p := ⟨O, 0, none⟩) lO).trans cO0; replace cO1 := (hb.cell (p := ⟨O, 1, none⟩) lO).trans cO1; replace lB := Nat.lt_of_lt_of_le lB hb.size; replace lO := Nat.lt_of_lt_of_le lO hb.size; replace hBw := hBw.trans (hb.mono hBw.size); replace hzc := hzc.below hb; clear hb) | (go_at_call 28; (with_reducible refine (k7 _).mono ?_); rintro e w' ⟨rfl, hb⟩; replace cB0 := (hb.cell (p := ⟨B, 0, none⟩) lB).trans cB0; replace cB1 := (hb.cell (p := ⟨B, 1, none⟩) lB).trans cB1; replace cO0 := (hb.cell (p := ⟨O, 0, none⟩) lO).trans cO0; replace cO1 := (hb.cell (p := ⟨O, 1, none⟩) lO).trans cO1; replace lB := Nat.lt_of_lt_of_le lB hb.size; replace lO := Nat.lt_of_lt_of_le lO hb.size; replace hBw := hBw.trans (hb.mono hBw.size); replace hzc := hzc.below hb; clear hb) | (go_at_call 29; (with_reducible refine (k8 _).mono ?_); rintro e w' ⟨rfl, hb⟩; replace cB0 := (hb.cell (p := ⟨B, 0, none⟩) lB).trans cB0; replace cB1 := (hb.cell (p := ⟨B, 1, none⟩) lB).trans cB1; replace cO0 := (hb.cell (p := ⟨O, 0, none⟩) lO).trans cO0; replace cO1 := (hb.cell (p := ⟨O, 1, none⟩) lO).trans cO1; replace lB := Nat.lt_of_lt_of_le lB hb.size; replace lO := Nat.lt_of_lt_of_le lO hb.size; replace hBw := hBw.trans (hb.mono hBw.size); replace hzc := hzc.below hb; clear hb) | (go_at_call 28; (with_reducible refine (k9 _).mono ?_); rintro e w' ⟨rfl, hb⟩; replace cB0 := (hb.cell (p := ⟨B, 0, none⟩) lB).trans cB0; replace cB1 := (hb.cell (p := ⟨B, 1, none⟩) lB).trans cB1; replace cO0 := (hb.cell (p := ⟨O, 0, none⟩) lO).trans cO0; replace cO1 := (hb.cell (p := ⟨O, 1, none⟩) lO).trans cO1; replace lB := Nat.lt_of_lt_of_le lB hb.size; replace lO := Nat.lt_of_lt_of_le lO hb.size; replace hBw := hBw.trans (hb.mono hBw.size); replace hzc := hzc.below hb; clear hb) | (go_at_call 28; (with_reducible refine (k10 _).mono ?_); rintro e w' ⟨rfl, hb⟩; replace cB0 := (hb.cell (p := ⟨B, 0, none⟩) lB).trans cB0; replace cB1 := (hb.cell (p := ⟨B, 1, none⟩) lB).trans cB1; replace cO0 := (hb.cell (p := ⟨O, 0, none⟩) lO).trans cO0; replace cO1 := (hb.cell (p := ⟨O, 1, none⟩) lO).trans cO1; replace lB := Nat.lt_of_lt_of_le lB hb.size; replace lO := Nat.lt_of_lt_of_le lO hb.size; replace hBw := hBw.trans (hb.mono hBw.size); replace hzc := hzc.below hb; clear hb) | (go_at_call 30; (with_reducible refine (kb _).mono ?_); rintro e w' ⟨rfl, hb⟩; replace cB0 := (hb.cell (p := ⟨B, 0, none⟩) lB).trans cB0; replace cB1 := (hb.cell (p := ⟨B, 1, none⟩) lB).trans cB1; replace cO0 := (hb.cell (p := ⟨O, 0, none⟩) lO).trans cO0; replace cO1 := (hb.cell (p := ⟨O, 1, none⟩) lO).trans cO1; replace lB := Nat.lt_of_lt_of_le lB hb.size; replace lO := Nat.lt_of_lt_of_le lO hb.size; replace hBw := hBw.trans (hb.mono hBw.size); replace hzc := hzc.below hb; clear hb))
          all_goals (try (exfalso; omega))
          all_goals
            go_returns
            exact ⟨by first | rfl | simp, hBw.alloc hBw.size _⟩
      · rw [l0] at k8
        replace l1 := l1 e1
        rw [e2] at l1
        generalize leastV d f (10 * s) room (10 * g) down = L at *
        rcases both_facts d0 d1 f0 f1 d0' d1' f0' f1' with ⟨b0, b1, b2, b3⟩ | ⟨b0, b1⟩
        · rw [b0, b1, b2] at kb
          have kvA := fun W => kv d (f + f') W
          have kvB := fun W => kv d' (f + f') W
          rw [(valid_of b3 d0 d1 d0' d1').1] at kvA
          rw [(valid_of b3 d0 d1 d0' d1').2] at kvB
          clear b0 b1 b2 b3
          go_wp2_with (first | (go_at_call 27; (with_reducible refine (k5 _).mono ?_); rintro e w' ⟨rfl, hb⟩; replace cB0 := (hb.cell (p := ⟨B, 0, none⟩) lB).trans cB0; replace cB1 := (hb.cell (p := ⟨B, 1, none⟩) lB).trans cB1; replace cO0 := (hb.cell (p := ⟨O, 0, none⟩) lO).trans cO0; replace cO1 := (hb.cell (p := ⟨O, 1, none⟩) lO).trans cO1; replace lB := Nat.lt_of_lt_of_le lB hb.size; replace lO := Nat.lt_of_lt_of_le lO hb.size; replace hBw := hBw.trans (hb.mono hBw.size); replace hzc := hzc.below hb; clear hb) | (go_at_call 28; (with_reducible refine (k6 _).mono ?_); rintro e w' ⟨rfl, hb⟩; replace cB0 := (hb.cell (p := ⟨B, 0, none⟩) lB).trans cB0; replace cB1 := (hb.cell (p := ⟨B, 1, none⟩) lB).trans cB1; replace cO0 := (hb.cell (p := ⟨O, 0, none⟩) lO).trans cO0; replace cO1 := (hb.cell (p := ⟨O, 1, none⟩) lO).trans cO1; replace lB := Nat.lt_of_lt_of_le lB hb.size; replace lO := Nat.lt_of_lt_of_le lO hb.size; replace hBw := hBw.trans (hb.mono hBw.size); replace hzc := hzc.below hb; clear hb) | (go_at_call 28; (with_reducible refine (k7 _).mono ?_); rintro e w' ⟨rfl, hb⟩; replace cB0 := (hb.cell (p := ⟨B, 0, none⟩) lB).trans cB0; replace cB1 := (hb.cell (p := ⟨B, 1, none⟩) lB).trans cB1; replace cO0 := (hb.cell (p := ⟨O, 0, none⟩) lO).trans cO0; replace cO1 := (hb.cell (p := ⟨O, 1, none⟩) lO).trans cO1; replace lB := Nat.lt_of_lt_of_le lB hb.size; replace lO := Nat.lt_of_lt_of_le lO hb.size; replace hBw := hBw.trans (hb.mono hBw.size); replace hzc := hzc.below hb; clear hb) | (go_at_call 29; (with_reducible refine (k8 _).mono ?_); rintro e w' ⟨rfl, hb⟩; replace cB0 := (hb.cell (p := ⟨B, 0, none⟩) lB).trans cB0; replace cB1 := (hb.cell (p := ⟨B, 1, none⟩) lB).trans cB1; replace cO0 := (hb.cell (p := ⟨O, 0, none⟩) lO).trans cO0; replace cO1 := (hb.cell (p := ⟨O, 1, none⟩) lO).trans cO1; replace lB := Nat.lt_of_lt_of_le lB hb.size; replace lO := Nat.lt_of_lt_of_le lO hb.size; replace hBw := hBw.trans (hb.mono hBw.size); replace hzc := hzc.below hb; clear hb) | (go_at_call 30; (with_reducible refine (kb _).mono ?_); rintro e w' ⟨rfl, hb⟩; replace cB0 := (hb.cell (p := ⟨B, 0, none⟩) lB).trans cB0; replace cB1 := (hb.cell (p := ⟨B, 1, none⟩) lB).trans cB1; replace cO0 := (hb.cell (p := ⟨O, 0, none⟩) lO).trans cO0; replace cO1 := (hb.cell (p := ⟨O, 1, none⟩) lO).trans cO1; replace lB := Nat.lt_of_lt_of_le lB hb.size; replace lO := Nat.lt_of_lt_of_le lO hb.size; replace hBw := hBw.trans (hb.mono hBw.size); replace hzc := hzc.below hb; clear hb) | (go_at_call 31; (with_reducible refine (kvA _).mono ?_); rintro e w9 ⟨rfl, hb9⟩) | (go_at_call 31; (with_reducible refine (kvB _).mono ?_); rintro e w9 ⟨rfl, hb9⟩))
          all_goals (try (exfalso; omega))
          all_goals
            go_returns
            exact ⟨by first | rfl | simp, (hBw.alloc hBw.size _).trans (hb9.mono (by have := hBw.size; simp; omega))⟩
        · rw [b0] at kb
          generalize bothDelay d f d' f' = bd at *
          generalize bothDecel d f d' f' = bf at *
          clear b0
          go_wp2_with (first | (go_at_call 27; (with_reducible refine (k5 _).mono ?_); rintro e w' ⟨rfl, hb⟩; replace cB0 := (hb.cell (p := ⟨B, 0, none⟩) lB).trans cB0; replace cB1 := (hb.cell (p := ⟨B, 1, none⟩) lB).trans cB1; replace cO0 := (hb.cell (p := ⟨O, 0, none⟩) lO).trans cO0; replace cO1 := (hb.cell (p := ⟨O, 1, none⟩) lO).trans cO1; replace lB := Nat.lt_of_lt_of_le lB hb.size; replace lO := Nat.lt_of_lt_of_le lO hb.size; replace hBw := hBw.trans (hb.mono hBw.size); replace hzc := hzc.below hb; clear hb) | (go_at_call 28; (with_reducible refine (k6 _).mono ?_); rintro e w' ⟨rfl, hb⟩; replace cB0 := (hb.cell (p := ⟨B, 0, none⟩) lB).trans cB0; replace cB1 := (hb.cell (p := ⟨B, 1, none⟩) lB).trans cB1; replace cO0 := (hb.cell (p := ⟨O, 0, none⟩) lO).trans cO0; replace cO1 := (hb.cell (p := ⟨O, 1, none⟩) lO).trans cO1; replace lB := Nat.lt_of_lt_of_le lB hb.size; replace lO := Nat.lt_of_lt_of_le lO hb.size; replace hBw := hBw.trans (hb.mono hBw.size); replace hzc := hzc.below hb; clear hb) | (go_at_call 28; (with_reducible refine (k7 _).mono ?_); rintro e w' ⟨rfl, hb⟩; replace cB0 := (hb.cell (p := ⟨B, 0, none⟩) lB).trans cB0; replace cB1 := (hb.cell (p := ⟨B, 1, none⟩) lB).trans cB1; replace cO0 := (hb.cell (p := ⟨O, 0, none⟩) lO).trans cO0; replace cO1 := (hb.cell (p := ⟨O, 1, none⟩) lO).trans cO1; replace lB := Nat.lt_of_lt_of_le lB hb.size; replace lO := Nat.lt_of_lt_of_le lO hb.size; replace hBw := hBw.trans (hb.mono hBw.size); replace hzc := hzc.below hb; clear hb) | (go_at_call 29; (with_reducible refine (k8 _).mono ?_); rintro e w' ⟨rfl, hb⟩; replace cB0 := (hb.cell (p := ⟨B, 0, none⟩) lB).trans cB0; replace cB1 := (hb.cell (p := ⟨B, 1, none⟩) lB).trans cB1; replace cO0 := (hb.cell (p := ⟨O, 0, none⟩) lO).trans cO0; replace cO1 := (hb.cell (p := ⟨O, 1, none⟩) lO).trans cO1; replace lB := Nat.lt_of_lt_of_le lB hb.size; replace lO := Nat.lt_of_lt_of_le lO hb.size; replace hBw := hBw.trans (hb.mono hBw.size); replace hzc := hzc.below hb; clear hb) | (go_at_call 30; (with_reducible refine (kb _).mono ?_); rintro e w' ⟨rfl, hb⟩; replace cB0 := (hb.cell (p := ⟨B, 0, none⟩) lB).trans cB0; replace cB1 := (hb.cell (p := ⟨B, 1, none⟩) lB).trans cB1; replace cO0 := (hb.cell (p := ⟨O, 0, none⟩) lO).trans cO0; replace cO1 := (hb.cell (p := ⟨O, 1, none⟩) lO).trans cO1; replace lB := Nat.lt_of_lt_of_le lB hb.size; replace lO := Nat.lt_of_lt_of_le lO hb.size; replace hBw := hBw.trans (hb.mono hBw.size); replace hzc := hzc.below hb; clear hb))
          all_goals (try (exfalso; omega))
          all_goals
            go_returns
            exact ⟨by first | rfl | simp, hBw.alloc hBw.size _⟩
  · have hor : (decide (1048576 < n0) || decide (1048576 < n1)) = true := by
      rw [Bool.or_eq_true, decide_eq_true_eq, decide_eq_true_eq]; omega
    rw [hor] at kl
    go_enter Try.func5, Try.ntmps5
    go_wp2_with (go_at_call 9; (with_reducible refine (kl _).mono ?_); rintro e w' ⟨rfl, rfl⟩)
    go_returns
    exact ⟨rfl, Below.refl _ _⟩

end Go.Proofs.Ytpmdkadfmieieaa
