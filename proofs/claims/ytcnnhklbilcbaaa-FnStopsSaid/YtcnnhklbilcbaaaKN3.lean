/-
  Contracts: speed profiles: valid ones; the speed of the next second.
-/
import Derived.Test.YtcnnhklbilcbaaaM1
import Derived.Test.YtcnnhklbilcbaaaKC
import Derived.Test.YtcnnhklbilcbaaaKL
import Derived.Test.YtcnnhklbilcbaaaPpf
import Derived.Lib.Hide
namespace Go.Proofs.Ytcnnhklbilcbaaa
open Go.RowKit
set_option linter.unusedVariables false
set_option linter.unusedSimpArgs false


theorem impl_ValidProfile (a r c y : Int) (w : World) : Calls Try.prog 34 #[.agg #[.int .i64 a, .int .i64 r, .int .i64 c, .int .i64 y]] w fun e w' => e = .returned (.bool (profOk a r c y)) ∧ Below w.heap.size w w' := by
  go_enter Try.func34, Try.ntmps34
  go_wp2_with (first | (go_at_call 28; go_call impl_within as e w' ⟨rfl, rfl⟩) | (go_at_call 51; go_call impl_isWay as e w' ⟨rfl, rfl⟩))
  all_goals
    go_returns
    exact ⟨by simp [profOk, *], by go_grown⟩

theorem spec_l09Ok (g q : Nat) (a r c y : Int) (w : World) (c0 : w.cell? ⟨g, q, none⟩ = some (.int .i64 a)) (c1 : w.cell? ⟨g, q + 1, none⟩ = some (.int .i64 r)) (c2 : w.cell? ⟨g, q + 2, none⟩ = some (.int .i64 c)) (c3 : w.cell? ⟨g, q + 3, none⟩ = some (.int .i64 y)) : Calls Try.prog 53 #[.pointer (some ⟨g, q, none⟩)] w fun e w' => e = .returned (.bool (profOk a r c y)) ∧ Below w.heap.size w w' := by
  have k1 := fun W => spec_l00In a 1 2000 W
  have k2 := fun W => spec_l00In r 100 15000 W
  have k3 := fun W => spec_l00In c 100 r W
  have k4 := fun W => spec_l00In y 0 3000000 W
  have hz : g < w.heap.size := World.block_lt_of_cell? w _ c0
  unfold profOk
  generalize inB a 1 2000 = b1 at *
  generalize inB r 100 15000 = b2 at *
  generalize inB c 100 r = b3 at *
  generalize inB y 0 3000000 = b4 at *
  cases b1 <;> cases b2 <;> cases b3 <;> cases b4
  all_goals
    go_enter Try.func53, Try.ntmps53
    go_wp2
    (refine wp_region_cls (by kernel_rfl) (by kernel_rfl) ?_; (repeat (go_big_quiet_step ((first | (go_at_call 39; with_reducible exact cls_S (k1 _)) | (go_at_call 39; with_reducible exact cls_S (k2 _)) | (go_at_call 39; with_reducible exact cls_S (k3 _)) | (go_at_call 39; with_reducible exact cls_S (k4 _)))))); refine wpQuiet_nil ?_; rintro _ ⟨u, rfl⟩; have hb := u.below; generalize u.w = w' at *; obtain ⟨hc, hf⟩ := bcell hb; have hz : w.heap.size ≤ w'.heap.size := (by have := hb.size; (try simp at this); omega); have hB : Below w.heap.size w w' := Below.trans (by go_grown) (hb.mono (by go_size)))
    go_wp2
    go_returns
    exact ⟨rfl, by go_grown⟩

theorem impl_least_nextSpeed_1 (P : Int → Bool) (lo hi v : Int) (c0 c1 : Value) (w : World) (h1 : 0 ≤ lo) (h2 : hi ≤ 1000000000) (h3 : lo ≤ v) (h4 : v ≤ hi + 1)
    (hl : ∀ x, lo ≤ x → x < v → P x = false) (hh : ∀ x, v ≤ x → x ≤ hi → P x = true)
    (hF : ∀ m W, lo ≤ m → m ≤ hi → Below w.heap.size w W → Calls Try.prog 62 #[.int .i64 m, c0, c1] W fun e w' => e = .returned (.bool (P m)) ∧ Below W.heap.size W w') :
    Calls Try.prog 61 #[.int .i64 lo, .int .i64 hi, .func (.func 62) #[] #[c0, c1]] w fun e w' => e = .returned (.int .i64 v) ∧ Below w.heap.size w w' := by
  have HF := Lib.hid hF
  have HL := Lib.hid hl
  have HH := Lib.hid hh
  clear hF hl hh
  go_enter Try.func61, Try.ntmps61
  go_wp2
  go_loopw [0, 7] (fun x y wr => ∃ a b : Int, x = .int .i64 a ∧ y = .int .i64 b ∧ lo ≤ a ∧ a ≤ v ∧ v ≤ b ∧ b ≤ hi + 1 ∧ Below w.heap.size w wr) (fun x y _ => (intOf y - intOf x).toNat)
  case atStart => exact ⟨lo, hi + 1, rfl, rfl, by omega, by omega, by omega, by omega, Below.refl _ _⟩
  case round =>
    obtain ⟨a, b, rfl, rfl, ha, hav, hvb, hb, hB⟩ := hrel
    by_cases hlt : a < b
    · have m0 : a ≤ (a + b) / 2 := by omega
      have m1 : (a + b) / 2 < b := by omega
      have hF := fun W => HF.out ((a + b) / 2) W (by omega) (by omega)
      have hLb := HL.out ((a + b) / 2) (by omega)
      have hHb := fun h => HH.out ((a + b) / 2) h (by omega)
      cases hp : P ((a + b) / 2)
      · have hmv : (a + b) / 2 < v := by
          by_cases h : (a + b) / 2 < v
          · exact h
          · have := hHb (by omega); rw [hp] at this; exact absurd this (by decide)
        rw [hp] at hF
        clear hp hLb hHb
        go_wp2_with (go_at_call 62; (with_reducible refine (hF _ hB).mono ?_); rintro e w' ⟨rfl, hb'⟩; have hB' : Below w.heap.size w w' := hB.trans (hb'.mono hB.size))
        go_roundw
        case rel => exact ⟨(a + b) / 2 + 1, b, rfl, rfl, by omega, by omega, by omega, by omega, hB'⟩
        case measure => simp [intOf]; omega
      · have hmv : v ≤ (a + b) / 2 := by
          by_cases h : (a + b) / 2 < v
          · have := hLb h; rw [hp] at this; exact absurd this (by decide)
          · omega
        rw [hp] at hF
        clear hp hLb hHb
        go_wp2_with (go_at_call 62; (with_reducible refine (hF _ hB).mono ?_); rintro e w' ⟨rfl, hb'⟩; have hB' : Below w.heap.size w w' := hB.trans (hb'.mono hB.size))
        go_roundw
        case rel => exact ⟨a, (a + b) / 2, rfl, rfl, by omega, by omega, by omega, by omega, hB'⟩
        case measure => simp [intOf]; omega
    · obtain rfl : a = v := by omega
      go_wp2
      go_ret
      exact ⟨rfl, hB⟩

theorem impl_nextSpeed_1 (b1 b2 : Nat) (a r c y l v : Int) (w : World) (hp : profOk a r c y = true) (h7 : 0 ≤ v) (h8 : v ≤ 15000) (hl0 : 0 ≤ l) (hl1 : l ≤ 3000000)
    (c0 : w.cell? ⟨b1, 0, none⟩ = some (.int .i64 a)) (c2 : w.cell? ⟨b1, 2, none⟩ = some (.int .i64 c)) (c3 : w.cell? ⟨b1, 3, none⟩ = some (.int .i64 y)) (c4 : w.cell? ⟨b2, 0, none⟩ = some (.int .i64 l)) :
    Calls Try.prog 62 #[.int .i64 v, .pointer (some ⟨b1, 0, none⟩), .pointer (some ⟨b2, 0, none⟩)] w
      fun e w' => e = .returned (.bool (!mayV a c y l v)) ∧ Below w.heap.size w w' := by
  obtain ⟨p1, p2, p3, p4⟩ := prof_at hp
  have m1 := mul_bd h7 h8 h7 h8
  have m2 := mul_bd (x := c) (y := c) (a := 15000) (b := 15000) (by omega) (by omega) (by omega) (by omega)
  have m3 := mul_bd (x := 2 * a) (y := max 0 (l - v - y)) (a := 4000) (b := 3000000) (by omega) (by omega) (by omega) (by omega)
  have e0 : mayV a c y l v = decide (v * v ≤ c * c + 2 * a * max 0 (l - v - y)) := rfl
  rw [e0, show (!decide (v * v ≤ c * c + 2 * a * max 0 (l - v - y))) = decide (c * c + 2 * a * max 0 (l - v - y) < v * v) from by rw [← decide_not]; exact decide_eq_decide.2 Int.not_le]
  clear e0 hp
  by_cases hm : y < l - v
  · have eM : max 0 (l - v - y) = l - v - y := by omega
    rw [eM] at m3 ⊢
    go_enter Try.func62, Try.ntmps62
    go_wp2
    go_returns
    exact ⟨by first | rfl | simp, by go_grown⟩
  · have eM : max 0 (l - v - y) = 0 := by omega
    rw [eM, Int.mul_zero] at m3 ⊢
    have hm' : l - v ≤ y := by omega
    go_enter Try.func62, Try.ntmps62
    go_wp2
    go_returns
    exact ⟨by first | rfl | simp, by go_grown⟩

set_option maxHeartbeats 1000000 in
theorem impl_nextSpeed (a r c y s l : Int) (w : World) (hp : profOk a r c y = true) (h7 : 0 ≤ s) (h8 : s ≤ 15000) (hl0 : 0 ≤ l) (hl1 : l ≤ 3000000) :
    Calls Try.prog 52 #[.agg #[.int .i64 a, .int .i64 r, .int .i64 c, .int .i64 y], .int .i64 s, .int .i64 l] w fun e w' => e = .returned (.int .i64 (nxtV a r c y s l)) ∧ Below w.heap.size w w' := by
  obtain ⟨p1, p2, p3, p4⟩ := prof_at hp
  have t1 := top_le (a := a) (r := r) (c := c) (y := y) (s := s) (l := l)
  have t2 := top_pos (a := a) (r := r) (c := c) (y := y) (s := s) (l := l) (by omega)
  have t3 := top_bd (s := s) (l := l) hp
  unfold nxtV
  rcases (show (s + a < r ∧ c < s + a) ∨ (r ≤ s + a ∧ c < r) ∨ min r (s + a) ≤ c by omega) with ⟨hA, hC⟩ | ⟨hA, hC⟩ | hh
  · have eh : highV a r c s = s + a := by unfold highV; omega
    have hlt := fun m h0 h => top_lt (a := a) (r := r) (c := c) (y := y) (s := s) (l := l) (m := m) h0 h
    have hge := fun m h hm => top_ge (a := a) (r := r) (c := c) (y := y) (s := s) (l := l) (m := m) (by omega) (by omega) h hm
    rw [eh] at hge t1 t3
    have cl := fun W (z : w.heap.size + 1 < W.heap.size) k0 k1 k2 k3 => impl_least_nextSpeed_1 (fun v => !mayV a c y l v) c (s + a) (c + topN a r c y s l) (.pointer (some ⟨w.heap.size, 0, none⟩)) (.pointer (some ⟨w.heap.size + 1, 0, none⟩)) W (by omega) (by omega) (by omega) (by omega)
      (fun x hx hx' => by show (!mayV a c y l x) = false; rw [hlt x hx hx']; rfl) (fun x hx hx' => by show (!mayV a c y l x) = true; rw [hge x hx hx']; rfl)
      (fun m W' hm hm' hB => impl_nextSpeed_1 w.heap.size (w.heap.size + 1) a r c y l m W' hp (by omega) (by omega) hl0 hl1 ((hB.cell (p := ⟨w.heap.size, 0, none⟩) (show w.heap.size < W.heap.size by omega)).trans k0) ((hB.cell (p := ⟨w.heap.size, 2, none⟩) (show w.heap.size < W.heap.size by omega)).trans k1) ((hB.cell (p := ⟨w.heap.size, 3, none⟩) (show w.heap.size < W.heap.size by omega)).trans k2) ((hB.cell (p := ⟨w.heap.size + 1, 0, none⟩) (show w.heap.size + 1 < W.heap.size by omega)).trans k3))
    clear hlt hge eh hp
    generalize topN a r c y s l = U at *
    go_enter Try.func52, Try.ntmps52
    go_wp2_with (go_at_call 61; (with_reducible refine (cl _ (by first | omega | (simp; done)) (by go_cell) (by go_cell) (by go_cell) (by go_cell)).mono ?_); rintro e w' ⟨rfl, hb⟩; obtain ⟨hc, hf⟩ := bcell hb; have hz : w.heap.size < w'.heap.size := (by have := hb.size; (try simp at this); omega); have hz1 : w.heap.size + 1 < w'.heap.size := (by have := hb.size; (try simp at this); omega); have hB : Below w.heap.size w w' := Below.trans (by go_grown) (hb.mono (by go_size)))
    all_goals
      go_returns
      exact ⟨by (try simp); (try omega), by go_grown⟩
  · have eh : highV a r c s = r := by unfold highV; omega
    have hlt := fun m h0 h => top_lt (a := a) (r := r) (c := c) (y := y) (s := s) (l := l) (m := m) h0 h
    have hge := fun m h hm => top_ge (a := a) (r := r) (c := c) (y := y) (s := s) (l := l) (m := m) (by omega) (by omega) h hm
    rw [eh] at hge t1 t3
    have cl := fun W (z : w.heap.size + 1 < W.heap.size) k0 k1 k2 k3 => impl_least_nextSpeed_1 (fun v => !mayV a c y l v) c (r) (c + topN a r c y s l) (.pointer (some ⟨w.heap.size, 0, none⟩)) (.pointer (some ⟨w.heap.size + 1, 0, none⟩)) W (by omega) (by omega) (by omega) (by omega)
      (fun x hx hx' => by show (!mayV a c y l x) = false; rw [hlt x hx hx']; rfl) (fun x hx hx' => by show (!mayV a c y l x) = true; rw [hge x hx hx']; rfl)
      (fun m W' hm hm' hB => impl_nextSpeed_1 w.heap.size (w.heap.size + 1) a r c y l m W' hp (by omega) (by omega) hl0 hl1 ((hB.cell (p := ⟨w.heap.size, 0, none⟩) (show w.heap.size < W.heap.size by omega)).trans k0) ((hB.cell (p := ⟨w.heap.size, 2, none⟩) (show w.heap.size < W.heap.size by omega)).trans k1) ((hB.cell (p := ⟨w.heap.size, 3, none⟩) (show w.heap.size < W.heap.size by omega)).trans k2) ((hB.cell (p := ⟨w.heap.size + 1, 0, none⟩) (show w.heap.size + 1 < W.heap.size by omega)).trans k3))
    clear hlt hge eh hp
    generalize topN a r c y s l = U at *
    go_enter Try.func52, Try.ntmps52
    go_wp2_with (go_at_call 61; (with_reducible refine (cl _ (by first | omega | (simp; done)) (by go_cell) (by go_cell) (by go_cell) (by go_cell)).mono ?_); rintro e w' ⟨rfl, hb⟩; obtain ⟨hc, hf⟩ := bcell hb; have hz : w.heap.size < w'.heap.size := (by have := hb.size; (try simp at this); omega); have hz1 : w.heap.size + 1 < w'.heap.size := (by have := hb.size; (try simp at this); omega); have hB : Below w.heap.size w w' := Below.trans (by go_grown) (hb.mono (by go_size)))
    all_goals
      go_returns
      exact ⟨by (try simp); (try omega), by go_grown⟩
  · have eh : highV a r c s = c := by unfold highV; omega
    rw [eh] at t1
    have eU : topN a r c y s l = 1 := by omega
    rw [eU]
    clear t1 t2 t3 eU eh
    go_enter Try.func52, Try.ntmps52
    go_wp2
    all_goals
      go_returns
      exact ⟨by (try simp); (try omega), by go_grown⟩

theorem spec_l09May (g q : Nat) (a r c y v l : Int) (w : World) (hp : profOk a r c y = true) (h7 : 0 ≤ v) (h8 : v ≤ 15000) (hl0 : 0 ≤ l) (hl1 : l ≤ 3000000) (c0 : w.cell? ⟨g, q, none⟩ = some (.int .i64 a)) (c1 : w.cell? ⟨g, q + 1, none⟩ = some (.int .i64 r)) (c2 : w.cell? ⟨g, q + 2, none⟩ = some (.int .i64 c)) (c3 : w.cell? ⟨g, q + 3, none⟩ = some (.int .i64 y)) :
    Calls Try.prog 65 #[.pointer (some ⟨g, q, none⟩), .int .i64 v, .int .i64 l] w fun e w' => e = .returned (.bool (mayV a c y l v)) ∧ Below w.heap.size w w' := by
  obtain ⟨p1, p2, p3, p4⟩ := prof_at hp
  have m1 := mul_bd h7 h8 h7 h8
  have m2 := mul_bd (x := c) (y := c) (a := 15000) (b := 15000) (by omega) (by omega) (by omega) (by omega)
  have m3 := mul_bd (x := 2 * a) (y := max 0 (l - v - y)) (a := 4000) (b := 3000000) (by omega) (by omega) (by omega) (by omega)
  have kM := fun W => spec_l00Max 0 (l - v - y) W
  have e0 : mayV a c y l v = decide (v * v ≤ c * c + 2 * a * max 0 (l - v - y)) := rfl
  generalize max 0 (l - v - y) = M at *
  have hz : g < w.heap.size := World.block_lt_of_cell? w _ c0
  by_cases h : v * v ≤ c * c + 2 * a * M
  · rw [decide_eq_true h] at e0
    rw [e0]
    clear e0 hp
    go_enter Try.func65, Try.ntmps65
    go_wp2
    (refine wp_region_cls (by kernel_rfl) (by kernel_rfl) ?_; (repeat (go_big_quiet_step ((go_at_call 63; exact cls_S (kM _))))); refine wpQuiet_nil ?_; rintro _ ⟨u, rfl⟩; have hb := u.below; generalize u.w = w' at *; obtain ⟨hc, hf⟩ := bcell hb; have hz : w.heap.size ≤ w'.heap.size := (by have := hb.size; (try simp at this); omega); have hB : Below w.heap.size w w' := Below.trans (by go_grown) (hb.mono (by go_size)))
    go_wp2
    go_returns
    exact ⟨by (try simp); (try omega), by go_grown⟩
  · rw [decide_eq_false h] at e0
    rw [e0]
    clear e0 hp
    go_enter Try.func65, Try.ntmps65
    go_wp2
    (refine wp_region_cls (by kernel_rfl) (by kernel_rfl) ?_; (repeat (go_big_quiet_step ((go_at_call 63; exact cls_S (kM _))))); refine wpQuiet_nil ?_; rintro _ ⟨u, rfl⟩; have hb := u.below; generalize u.w = w' at *; obtain ⟨hc, hf⟩ := bcell hb; have hz : w.heap.size ≤ w'.heap.size := (by have := hb.size; (try simp at this); omega); have hB : Below w.heap.size w w' := Below.trans (by go_grown) (hb.mono (by go_size)))
    go_wp2
    go_returns
    exact ⟨by (try simp); (try omega), by go_grown⟩

set_option maxHeartbeats 1000000 in
theorem spec_l09Next (g q : Nat) (a r c y s l : Int) (w : World) (hp : profOk a r c y = true) (h7 : 0 ≤ s) (h8 : s ≤ 15000) (hl0 : 0 ≤ l) (hl1 : l ≤ 3000000) (c0 : w.cell? ⟨g, q, none⟩ = some (.int .i64 a)) (c1 : w.cell? ⟨g, q + 1, none⟩ = some (.int .i64 r)) (c2 : w.cell? ⟨g, q + 2, none⟩ = some (.int .i64 c)) (c3 : w.cell? ⟨g, q + 3, none⟩ = some (.int .i64 y)) :
    Calls Try.prog 55 #[.pointer (some ⟨g, q, none⟩), .int .i64 s, .int .i64 l] w fun e w' => e = .returned (.int .i64 (nxtV a r c y s l)) ∧ Below w.heap.size w w' := by
  obtain ⟨p1, p2, p3, p4⟩ := prof_at hp
  have t3 := top_bd (s := s) (l := l) hp
  have hhb := high_bd (s := s) hp
  have t2 := top_pos (a := a) (r := r) (c := c) (y := y) (s := s) (l := l) (by omega)
  have km := fun W => spec_l00Min r (s + a) W
  have kM := fun W => spec_l00Max c (min r (s + a)) W
  have kn := fun W => spec_l00Min (c + topN a r c y s l - 1) l W
  have ky := fun v h h' W c0 c1 c2 c3 => spec_l09May g q a r c y v l W hp h h' hl0 hl1 c0 c1 c2 c3
  have HY := Lib.hid ky
  have HL := Lib.hid (fun m h0 h => top_lt (a := a) (r := r) (c := c) (y := y) (s := s) (l := l) (m := m) h0 h)
  have HG := Lib.hid (fun m h hm => top_ge (a := a) (r := r) (c := c) (y := y) (s := s) (l := l) (m := m) (by omega) (by omega) h hm)
  have hz : g < w.heap.size := World.block_lt_of_cell? w _ c0
  unfold nxtV
  rw [show max c (min r (s + a)) = highV a r c s from rfl] at kM
  generalize highV a r c s = H at *
  generalize topN a r c y s l = U at *
  clear ky hp
  obtain ⟨T, hT⟩ : ∃ T : Int, T = c + U - 1 := ⟨_, rfl⟩
  rw [← hT] at kn t3 ⊢
  have HL := Lib.hid (fun m h0 (h : m ≤ T) => HL.out m h0 (show m < c + U by omega))
  have HG := Lib.hid (fun m (h : T < m) hm => HG.out m (by omega) hm)
  have tc : c ≤ T := by omega
  clear hT
  have HC := Lib.hid (fun W (hW : Below w.heap.size w W) => And.intro ((hW.cell (p := ⟨g, q, none⟩) hz).trans c0) (And.intro ((hW.cell (p := ⟨g, q + 1, none⟩) hz).trans c1) (And.intro ((hW.cell (p := ⟨g, q + 2, none⟩) hz).trans c2) ((hW.cell (p := ⟨g, q + 3, none⟩) hz).trans c3))))
  go_enter Try.func55, Try.ntmps55
  go_wp2
  (refine wp_region_cls (by kernel_rfl) (by kernel_rfl) ?_; (repeat (go_big_quiet_step ((first | (go_at_call 64; exact cls_S (km _)) | (go_at_call 63; exact cls_S (kM _)))))); refine wpQuiet_nil ?_; rintro _ ⟨u, rfl⟩; have hb := u.below; generalize u.w = w' at *; obtain ⟨hc, hf⟩ := bcell hb; have hz : w.heap.size ≤ w'.heap.size := (by have := hb.size; (try simp at this); omega); have hB : Below w.heap.size w w' := Below.trans (by go_grown) (hb.mono (by go_size)))
  go_wp2
  clear hc hf km kM
  go_loopw [7, 8] (fun x z wr => ∃ m k : Int, x = .int .i64 m ∧ z = .int .i64 k ∧ c ≤ m ∧ m ≤ T ∧ T ≤ k ∧ k ≤ H ∧ Below w.heap.size w wr) (fun x z _ => (intOf z - intOf x).toNat)
  case atStart => exact ⟨c, H, rfl, rfl, by omega, by omega, by omega, by omega, hB⟩
  case round =>
    obtain ⟨m, k, rfl, rfl, hm0, hm1, hk0, hk1, hB1⟩ := hrel
    by_cases hlt : m < k
    · have m0 : m < (m + k + 1) / 2 := by omega
      have m1 : (m + k + 1) / 2 ≤ k := by omega
      obtain ⟨d0, d1, d2, d3⟩ := HC.out _ hB1
      have ky := fun W => HY.out ((m + k + 1) / 2) (by omega) (by omega) W
      have hLb := fun h => HL.out ((m + k + 1) / 2) (by omega) h
      have hGb := fun h => HG.out ((m + k + 1) / 2) h (by omega)
      cases hv : mayV a c y l ((m + k + 1) / 2)
      · have hmv : T < (m + k + 1) / 2 := by
          by_cases h : T < (m + k + 1) / 2
          · exact h
          · have := hLb (by omega); rw [hv] at this; exact absurd this (by decide)
        rw [hv] at ky
        clear hLb hGb hv
        go_wp2_with (go_at_call 65; (with_reducible refine (ky _ d0 d1 d2 d3).mono ?_); rintro e w2 ⟨rfl, hb2⟩; have hB2 := hB1.trans (hb2.mono hB1.size))
        go_roundw
        case rel => exact ⟨m, (m + k + 1) / 2 - 1, rfl, rfl, by omega, by omega, by omega, by omega, hB2⟩
        case measure => simp [intOf]; omega
      · have hmv : (m + k + 1) / 2 ≤ T := by
          by_cases h : T < (m + k + 1) / 2
          · have := hGb h; rw [hv] at this; exact absurd this (by decide)
          · omega
        rw [hv] at ky
        clear hLb hGb hv
        go_wp2_with (go_at_call 65; (with_reducible refine (ky _ d0 d1 d2 d3).mono ?_); rintro e w2 ⟨rfl, hb2⟩; have hB2 := hB1.trans (hb2.mono hB1.size))
        go_roundw
        case rel => exact ⟨(m + k + 1) / 2, k, rfl, rfl, by omega, by omega, by omega, by omega, hB2⟩
        case measure => simp [intOf]; omega
    · obtain rfl : m = T := by omega
      go_wp2_with (go_at_call 64; (with_reducible refine (kn _).mono ?_); rintro e w' ⟨rfl, rfl⟩)
      go_returns
      exact ⟨rfl, hB1⟩

end Go.Proofs.Ytcnnhklbilcbaaa
