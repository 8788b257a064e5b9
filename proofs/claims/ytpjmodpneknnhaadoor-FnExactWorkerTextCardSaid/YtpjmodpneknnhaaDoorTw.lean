/-
  Contracts: the text of a worker; the walk of its law.
-/
import Derived.Test.YtpjmodpneknnhaaDoorDci
import Derived.Test.YtpjmodpneknnhaaDoorSh2
import Derived.Test.YtpjmodpneknnhaaDoorKY2
import Derived.Test.YtpjmodpneknnhaaDoorKX
namespace Go.Proofs.YtpjmodpneknnhaaDoor
open Go.RowKit
open Go.Lib (itoa decDigits)
set_option linter.unusedVariables false
set_option linter.unusedSimpArgs false

def twoTx (n : Int) : ByteArray := if n < 10 then ⟨#[48]⟩ ++ dtx n else dtx n
theorem dtx_one {n : Int} (h0 : 0 ≤ n) (h1 : n < 10) : (dtx n).size = 1 := by
  have e : (dtx n).size = (itoa n).length := by unfold dtx; simp [ByteArray.size]
  rw [e]; unfold itoa; rw [if_neg (by omega), decDigits, dif_pos (by omega)]; rfl
theorem dtx_two {n : Int} (h0 : 10 ≤ n) (h1 : n < 100) : (dtx n).size = 2 := by
  have e : (dtx n).size = (itoa n).length := by unfold dtx; simp [ByteArray.size]
  rw [e]; unfold itoa; rw [if_neg (by omega), decDigits, dif_neg (by omega), decDigits, dif_pos (by omega)]; rfl
theorem twoTx_size {n : Int} (h0 : 0 ≤ n) (h1 : n < 100) : (twoTx n).size = 2 := by
  unfold twoTx
  split
  · rw [ByteArray.size_append, dtx_one h0 (by omega)]; rfl
  · exact dtx_two (by omega) h1
def clockTx (n : Int) : ByteArray := twoTx (n / 60) ++ ⟨#[58]⟩ ++ twoTx (n % 60)
def dayTx (n : Int) : ByteArray := if n = 1440 then ⟨#[50, 52, 58, 48, 48]⟩ else clockTx n
theorem clockTx_size {n : Int} (h0 : 0 ≤ n) (h1 : n ≤ 1439) : (clockTx n).size = 5 := by
  unfold clockTx
  rw [ByteArray.size_append, ByteArray.size_append, twoTx_size (by omega) (by omega), twoTx_size (by omega) (by omega)]; rfl
theorem dayTx_size {n : Int} (h0 : 0 ≤ n) (h1 : n ≤ 1440) : (dayTx n).size = 5 := by
  unfold dayTx
  split
  · rfl
  · exact clockTx_size h0 (by omega)
theorem clock_adds (P : Program) {n : Int} (h0 : 0 ≤ n) (h1 : n ≤ 1439) :
    (∀ w, (Op.stringOp .add (twoTx (n / 60)) ⟨#[58]⟩).run P w = .ok (.string (twoTx (n / 60) ++ ⟨#[58]⟩)) w) ∧ (∀ w, (Op.stringOp .add (twoTx (n / 60) ++ ⟨#[58]⟩) (twoTx (n % 60))).run P w = .ok (.string (twoTx (n / 60) ++ ⟨#[58]⟩ ++ twoTx (n % 60))) w) := by
  have a := twoTx_size (n := n / 60) (by omega) (by omega)
  have b := twoTx_size (n := n % 60) (by omega) (by omega)
  have c : (⟨#[58]⟩ : ByteArray).size = 1 := rfl
  refine ⟨str_add (by omega), str_add ?_⟩
  rw [ByteArray.size_append]; omega

theorem spec_l02Two (n : Int) (w : World) (h0 : 0 ≤ n) (h1 : n < 100) : Calls Tryd.prog 131 #[.int .i64 n] w fun e w' => e = .returned (.string (twoTx n)) ∧ Below w.heap.size w w' := by
  have kd := fun W => spec_l01Dec_t n W (by omega) (by omega)
  unfold twoTx
  by_cases h : n < 10
  · have a1 := str_add (P := Tryd.prog) (a := ⟨#[48]⟩) (b := dtx n) (by rw [dtx_one h0 h]; decide)
    rw [if_pos h]
    generalize ⟨#[48]⟩ ++ dtx n = T at *
    go_enter Tryd.func131, Tryd.ntmps131
    go_wp2_with (go_at_call 68; (with_reducible refine (kd _).mono ?_); rintro e w' ⟨rfl, hb⟩; obtain ⟨hc, hf⟩ := bcell hb; have hz : w.heap.size ≤ w'.heap.size := (by have := hb.size; (try simp at this); omega); have hB : Below w.heap.size w w' := Below.trans (by go_grown) (hb.mono (by go_size)))
    go_returns
    exact ⟨rfl, hB⟩
  · rw [if_neg h]
    have hd : decide (n < 10) = false := decide_eq_false h
    go_enter Tryd.func131, Tryd.ntmps131
    go_wp2_with (go_at_call 68; (with_reducible refine (kd _).mono ?_); rintro e w' ⟨rfl, hb⟩; obtain ⟨hc, hf⟩ := bcell hb; have hz : w.heap.size ≤ w'.heap.size := (by have := hb.size; (try simp at this); omega); have hB : Below w.heap.size w w' := Below.trans (by go_grown) (hb.mono (by go_size)))
    go_returns
    exact ⟨rfl, hB⟩

theorem spec_l02Clock (n : Int) (w : World) (h0 : 0 ≤ n) (h1 : n ≤ 1439) : Calls Tryd.prog 111 #[.int .i64 n] w fun e w' => e = .returned (.string (clockTx n)) ∧ Below w.heap.size w w' := by
  obtain ⟨a1, a2⟩ := clock_adds Tryd.prog h0 h1
  have e1 : n.tdiv 60 = n / 60 := Int.tdiv_eq_ediv_of_nonneg h0
  have e2 : n.tmod 60 = n % 60 := Int.tmod_eq_emod_of_nonneg h0
  have k1 := fun W => spec_l02Two (n / 60) W (by omega) (by omega)
  have k2 := fun W => spec_l02Two (n % 60) W (by omega) (by omega)
  have q1 : n / 60 ≤ 24 := by omega
  have q2 : 0 ≤ n / 60 := by omega
  have q3 : n % 60 ≤ 59 := by omega
  have q4 : 0 ≤ n % 60 := by omega
  unfold clockTx
  generalize twoTx (n / 60) ++ ⟨#[58]⟩ = T1 at *
  generalize T1 ++ twoTx (n % 60) = T2 at *
  clear e1 e2
  go_enter Tryd.func111, Tryd.ntmps111
  go_wp2_with (first | (go_at_call 131; (with_reducible refine (k1 _).mono ?_); rintro e w' ⟨rfl, hb⟩; obtain ⟨hc, hf⟩ := bcell hb; have hz : w.heap.size ≤ w'.heap.size := (by have := hb.size; (try simp at this); omega); have hB : Below w.heap.size w w' := Below.trans (by go_grown) (hb.mono (by go_size))) | (go_at_call 131; (with_reducible refine (k2 _).mono ?_); rintro e w' ⟨rfl, hb⟩; obtain ⟨hc, hf⟩ := bcell hb; have hz : w.heap.size ≤ w'.heap.size := (by have := hb.size; (try simp at this); omega); have hB : Below w.heap.size w w' := Below.trans (by go_grown) (hb.mono (by go_size))))
  go_returns
  exact ⟨rfl, hB⟩

theorem spec_ClockText (n : Int) (w : World) (h0 : 0 ≤ n) (h1 : n ≤ 1439) : Calls Tryd.prog 98 #[.int .i64 n] w fun e w' => e = .returned (.string (clockTx n)) ∧ Below w.heap.size w w' := by
  have k1 := fun W => spec_l00In n 0 1439 W
  rw [inB_true.2 ⟨h0, h1⟩] at k1
  have k2 := fun W => spec_l02Clock n W h0 h1
  generalize clockTx n = T at *
  go_enter Tryd.func98, Tryd.ntmps98
  go_wp2_with (first | (go_at_call 67; (with_reducible refine (k1 _).mono ?_); rintro e w' ⟨rfl, rfl⟩) | (go_at_call 111; (with_reducible refine (k2 _).mono ?_); rintro e w' ⟨rfl, hb⟩; obtain ⟨hc, hf⟩ := bcell hb; have hz : w.heap.size ≤ w'.heap.size := (by have := hb.size; (try simp at this); omega); have hB : Below w.heap.size w w' := Below.trans (by go_grown) (hb.mono (by go_size))))
  go_returns
  exact ⟨rfl, hB⟩

theorem spec_l14Clock (n : Int) (w : World) (h0 : 0 ≤ n) (h1 : n ≤ 1440) : Calls Tryd.prog 80 #[.int .i64 n] w fun e w' => e = .returned (.string (dayTx n)) ∧ Below w.heap.size w w' := by
  unfold dayTx
  by_cases h : n = 1440
  · subst h
    rw [if_pos rfl]
    go_enter Tryd.func80, Tryd.ntmps80
    go_wp2
    go_returns
    exact ⟨rfl, Below.refl _ _⟩
  · have hb : (n == 1440) = false := beq_eq_false_iff_ne.2 h
    have k2 := fun W => spec_ClockText n W h0 (by omega)
    rw [if_neg h]
    generalize clockTx n = T at *
    clear h
    go_enter Tryd.func80, Tryd.ntmps80
    go_wp2_with (go_at_call 98; (with_reducible refine (k2 _).mono ?_); rintro e w' ⟨rfl, hb⟩; obtain ⟨hc, hf⟩ := bcell hb; have hz : w.heap.size ≤ w'.heap.size := (by have := hb.size; (try simp at this); omega); have hB : Below w.heap.size w w' := Below.trans (by go_grown) (hb.mono (by go_size)))
    go_returns
    exact ⟨rfl, hB⟩

theorem str_add0 {P : Program} {b : ByteArray} (h : b.size ≤ 1000000) : ∀ w, (Op.stringOp .add ⟨#[]⟩ b).run P w = .ok (.string b) w := fun w => by
  have e : (⟨#[]⟩ : ByteArray) ++ b = b := by
    apply ByteArray.ext
    simp [ByteArray.data_append]
  rw [run_string_add_sum w ⟨#[]⟩ b (by have : (⟨#[]⟩ : ByteArray).size = 0 := rfl; omega), e]
theorem impl_padded (n : Int) (w : World) (h0 : 0 ≤ n) (h1 : n < 100) (hT : PowAt w) : Calls Tryd.prog 99 #[.int .i64 n, .int .i64 2] w fun e w' => e = .returned (.string (twoTx n)) ∧ Below w.heap.size w w' := by
  have kd := fun W h => impl_Decimal_t n W (by omega) (by omega) h
  unfold twoTx
  by_cases h : n < 10
  · have hs := dtx_one h0 h
    have a1 := str_add (P := Tryd.prog) (a := ⟨#[48]⟩) (b := dtx n) (by rw [hs]; decide)
    have kr : ∀ W, Calls Tryd.prog 112 #[.string ⟨#[48]⟩, .int .i64 (max 0 1)] W fun e w' => e = .returned (.string ⟨#[48]⟩) ∧ w' = W := fun W => Go.Proofs.Tryd.strings_Repeat_one ⟨#[48]⟩ W
    rw [if_pos h]
    generalize ⟨#[48]⟩ ++ dtx n = T at *
    generalize dtx n = S at *
    go_enter Tryd.func99, Tryd.ntmps99
    go_wp2_with (first | (go_at_call 43; (with_reducible refine (kd _ hT).mono ?_); rintro e w' ⟨rfl, hb⟩; obtain ⟨hc, hf⟩ := bcell hb; have hz : w.heap.size ≤ w'.heap.size := (by have := hb.size; (try simp at this); omega); have hB : Below w.heap.size w w' := Below.trans (by go_grown) (hb.mono (by go_size))) | (go_at_call 112; (with_reducible refine (kr _).mono ?_); rintro e2 w2 ⟨rfl, rfl⟩))
    go_returns
    exact ⟨rfl, hB⟩
  · have hs := dtx_two (n := n) (by omega) h1
    have a1 := str_add0 (P := Tryd.prog) (b := dtx n) (by omega)
    have kr := fun W => Go.Proofs.Tryd.strings_Repeat_zero ⟨#[48]⟩ W
    rw [if_neg h]
    generalize dtx n = S at *
    go_enter Tryd.func99, Tryd.ntmps99
    go_wp2_with (first | (go_at_call 43; (with_reducible refine (kd _ hT).mono ?_); rintro e w' ⟨rfl, hb⟩; obtain ⟨hc, hf⟩ := bcell hb; have hz : w.heap.size ≤ w'.heap.size := (by have := hb.size; (try simp at this); omega); have hB : Below w.heap.size w w' := Below.trans (by go_grown) (hb.mono (by go_size))) | (go_at_call 112; (with_reducible refine (kr _).mono ?_); rintro e2 w2 ⟨rfl, rfl⟩))
    go_returns
    exact ⟨rfl, hB⟩

theorem impl_ClockText (n : Int) (w : World) (h0 : 0 ≤ n) (h1 : n ≤ 1439) (hT : PowAt w) : Calls Tryd.prog 83 #[.int .i64 n] w fun e w' => e = .returned (.string (clockTx n)) ∧ Below w.heap.size w w' := by
  have kw := fun W => impl_within n 0 1439 W
  rw [inB_true.2 ⟨h0, h1⟩] at kw
  obtain ⟨a1, a2⟩ := clock_adds Tryd.prog h0 h1
  have e1 : n.tdiv 60 = n / 60 := Int.tdiv_eq_ediv_of_nonneg h0
  have e2 : n.tmod 60 = n % 60 := Int.tmod_eq_emod_of_nonneg h0
  have k1 := fun W h => impl_padded (n / 60) W (by omega) (by omega) h
  have k2 := fun W h => impl_padded (n % 60) W (by omega) (by omega) h
  have q1 : n / 60 ≤ 24 := by omega
  have q2 : 0 ≤ n / 60 := by omega
  have q3 : n % 60 ≤ 59 := by omega
  have q4 : 0 ≤ n % 60 := by omega
  unfold clockTx
  generalize twoTx (n / 60) ++ ⟨#[58]⟩ = T1 at *
  generalize T1 ++ twoTx (n % 60) = T2 at *
  clear e1 e2
  go_enter Tryd.func83, Tryd.ntmps83
  go_wp2_with (first | (go_at_call 50; (with_reducible refine (kw _).mono ?_); rintro e w' ⟨rfl, rfl⟩) | (go_at_call 99; (with_reducible refine (k1 _ hT).mono ?_); rintro e w1 ⟨rfl, hb1⟩; have hT1 := hT.below hb1) | (go_at_call 99; (with_reducible refine (k2 _ hT1).mono ?_); rintro e w2 ⟨rfl, hb2⟩; have hB : Below w.heap.size w w2 := hb1.trans (hb2.mono hb1.size)))
  go_returns
  exact ⟨rfl, hB⟩

theorem impl_dayClock (n : Int) (w : World) (h0 : 0 ≤ n) (h1 : n ≤ 1440) (hT : PowAt w) : Calls Tryd.prog 59 #[.int .i64 n] w fun e w' => e = .returned (.string (dayTx n)) ∧ Below w.heap.size w w' := by
  unfold dayTx
  by_cases h : n = 1440
  · subst h
    rw [if_pos rfl]
    go_enter Tryd.func59, Tryd.ntmps59
    go_wp2
    go_returns
    exact ⟨rfl, Below.refl _ _⟩
  · have hb : (n == 1440) = false := beq_eq_false_iff_ne.2 h
    have k2 := fun W hT => impl_ClockText n W h0 (by omega) hT
    rw [if_neg h]
    generalize clockTx n = T at *
    clear h
    go_enter Tryd.func59, Tryd.ntmps59
    go_wp2_with (go_at_call 83; (with_reducible refine (k2 _ hT).mono ?_); rintro e w' ⟨rfl, hb⟩; obtain ⟨hc, hf⟩ := bcell hb; have hz : w.heap.size ≤ w'.heap.size := (by have := hb.size; (try simp at this); omega); have hB : Below w.heap.size w w' := Below.trans (by go_grown) (hb.mono (by go_size)))
    go_returns
    exact ⟨rfl, hB⟩

def workerTx (i : ByteArray) (f u : Int) : ByteArray := i ++ ⟨#[32]⟩ ++ dayTx f ++ ⟨#[32]⟩ ++ dayTx u
def workerText (i : ByteArray) (f u : Int) : ByteArray := if wk1 i f u = true then workerTx i f u else ⟨#[]⟩
theorem nameB_size {i : ByteArray} (h : nameB i = true) : i.size ≤ 10 := by
  unfold nameB at h
  simp only [Bool.and_eq_true, decide_eq_true_eq] at h
  exact h.1.2
theorem wk1_bd {i : ByteArray} {f u : Int} (h : wk1 i f u = true) : i.size ≤ 10 ∧ 0 ≤ f ∧ f ≤ 1440 ∧ 0 ≤ u ∧ u ≤ 1440 := by
  unfold wk1 at h
  simp only [Bool.and_eq_true, inB_true] at h
  exact ⟨nameB_size h.1, h.2.1.1, h.2.1.2, h.2.2.1.1, h.2.2.1.2⟩
theorem worker_adds (P : Program) {i : ByteArray} {f u : Int} (hi : i.size ≤ 10) (h0 : 0 ≤ f) (h1 : f ≤ 1440) (h2 : 0 ≤ u) (h3 : u ≤ 1440) :
    (∀ w, (Op.stringOp .add i ⟨#[32]⟩).run P w = .ok (.string (i ++ ⟨#[32]⟩)) w) ∧ (∀ w, (Op.stringOp .add (i ++ ⟨#[32]⟩) (dayTx f)).run P w = .ok (.string (i ++ ⟨#[32]⟩ ++ dayTx f)) w) ∧
    (∀ w, (Op.stringOp .add (i ++ ⟨#[32]⟩ ++ dayTx f) ⟨#[32]⟩).run P w = .ok (.string (i ++ ⟨#[32]⟩ ++ dayTx f ++ ⟨#[32]⟩)) w) ∧ (∀ w, (Op.stringOp .add (i ++ ⟨#[32]⟩ ++ dayTx f ++ ⟨#[32]⟩) (dayTx u)).run P w = .ok (.string (i ++ ⟨#[32]⟩ ++ dayTx f ++ ⟨#[32]⟩ ++ dayTx u)) w) := by
  have a := dayTx_size h0 h1
  have b := dayTx_size h2 h3
  have c : (⟨#[32]⟩ : ByteArray).size = 1 := rfl
  refine ⟨str_add (by omega), str_add ?_, str_add ?_, str_add ?_⟩ <;> simp only [ByteArray.size_append] <;> omega
set_option maxHeartbeats 1000000 in
theorem impl_WorkerText (i : ByteArray) (f u : Int) (w : World) (hs : i.size ≤ 9223372036854775807) (hT : PowAt w) : Calls Tryd.prog 27 #[.agg #[.string i, .int .i64 f, .int .i64 u]] w fun e w' => e = .returned (.string (workerText i f u)) ∧ Below w.heap.size w w' := by
  have kb := fun W => impl_validWorker i f u W hs
  unfold workerText
  cases h : wk1 i f u
  · rw [h] at kb
    go_enter Tryd.func27, Tryd.ntmps27
    go_wp2_with (go_at_call 58; (with_reducible refine (kb _).mono ?_); rintro e w' ⟨rfl, hb⟩; obtain ⟨hc, hf⟩ := bcell hb; have hz : w.heap.size < w'.heap.size := (by have := hb.size; (try simp at this); omega); have hB : Below w.heap.size w w' := Below.trans (by go_grown) (hb.mono (by go_size)))
    go_returns
    exact ⟨rfl, hB⟩
  · obtain ⟨bi, b0, b1, b2, b3⟩ := wk1_bd h
    rw [h] at kb
    have kd := fun n W h0 h1 hT => impl_dayClock n W h0 h1 hT
    rw [if_pos rfl]
    obtain ⟨a1, a2, a3, a4⟩ := worker_adds Tryd.prog bi b0 b1 b2 b3
    unfold workerTx
    generalize i ++ ⟨#[32]⟩ = T1 at *
    generalize T1 ++ dayTx f = T2 at *
    generalize T2 ++ ⟨#[32]⟩ = T3 at *
    generalize T3 ++ dayTx u = T4 at *
    go_enter Tryd.func27, Tryd.ntmps27
    go_wp2_with (go_at_call 58; (with_reducible refine (kb _).mono ?_); rintro e w' ⟨rfl, hb⟩; obtain ⟨hc, hf⟩ := bcell hb; have hz : w.heap.size < w'.heap.size := (by have := hb.size; (try simp at this); omega); have hB : Below w.heap.size w w' := Below.trans (by go_grown) (hb.mono (by go_size)))
    have hT1 := hT.below hB
    (refine wp_region_cls (by kernel_rfl) (by kernel_rfl) ?_; (repeat (go_big_quiet_step ((go_at_call 59; exact cls_B (kd _ _ (by omega) (by omega) (hT1.below (Cls.below _))))))); refine wpQuiet_nil ?_; rintro _ ⟨u, rfl⟩; have hb := u.below; replace hB := hB.trans (hb.mono hB.size); generalize u.w = w' at *; obtain ⟨hc, hf, hs⟩ := bkeep hb; have hq' := hb.size; have hq := hB.size; have hb' := hb; clear hb)
    go_wp2
    go_returns
    exact ⟨rfl, hB⟩

set_option maxHeartbeats 1000000 in
theorem spec_l14Written (g q : Nat) (i : ByteArray) (f u : Int) (w : World) (hi : i.size ≤ 10) (h0 : 0 ≤ f) (h1 : f ≤ 1440) (h2 : 0 ≤ u) (h3 : u ≤ 1440) (c0 : w.cell? ⟨g, q, none⟩ = some (.string i)) (c1 : w.cell? ⟨g, q + 1, none⟩ = some (.int .i64 f)) (c2 : w.cell? ⟨g, q + 2, none⟩ = some (.int .i64 u)) :
    Calls Tryd.prog 57 #[.pointer (some ⟨g, q, none⟩)] w fun e w' => e = .returned (.string (workerTx i f u)) ∧ Below w.heap.size w w' := by
  have kd := fun n W h0 h1 => spec_l14Clock n W h0 h1
  have hz0 : g < w.heap.size := World.block_lt_of_cell? w _ c0
  obtain ⟨a1, a2, a3, a4⟩ := worker_adds Tryd.prog hi h0 h1 h2 h3
  unfold workerTx
  generalize i ++ ⟨#[32]⟩ = T1 at *
  generalize T1 ++ dayTx f = T2 at *
  generalize T2 ++ ⟨#[32]⟩ = T3 at *
  generalize T3 ++ dayTx u = T4 at *
  go_enter Tryd.func57, Tryd.ntmps57
  go_wp2
  (refine wp_region_cls (by kernel_rfl) (by kernel_rfl) ?_; (repeat (go_big_quiet_step ((go_at_call 80; exact cls_B (kd _ _ (by omega) (by omega)))))); refine wpQuiet_nil ?_; rintro _ ⟨u, rfl⟩; have hb := u.below; generalize u.w = w' at *; obtain ⟨hc, hf⟩ := bcell hb; have hz : w.heap.size ≤ w'.heap.size := (by have := hb.size; (try simp at this); omega); have hB : Below w.heap.size w w' := Below.trans (by go_grown) (hb.mono (by go_size)))
  go_wp2
  go_returns
  exact ⟨rfl, hB⟩

set_option maxHeartbeats 1000000 in
theorem spec_WorkerText (i : ByteArray) (f u : Int) (w : World) (hs : i.size ≤ 9223372036854775807) : Calls Tryd.prog 25 #[.agg #[.string i, .int .i64 f, .int .i64 u]] w fun e w' => e = .returned (.string (workerText i f u)) ∧ Below w.heap.size w w' := by
  have kb := fun W c0 c1 c2 => spec_l14Worker w.heap.size 0 i f u W hs c0 c1 c2
  unfold workerText
  cases h : wk1 i f u
  · rw [h] at kb
    go_enter Tryd.func25, Tryd.ntmps25
    go_wp2_with (go_at_call 56; refine (kb _ (by go_cell) (by go_cell) (by go_cell)).mono ?_; rintro e w1 ⟨rfl, hb⟩; have hB1 : Below w.heap.size w w1 := Below.trans (by go_grown) (hb.mono (by go_size)))
    go_returns
    exact ⟨rfl, hB1⟩
  · obtain ⟨bi, b0, b1, b2, b3⟩ := wk1_bd h
    rw [h] at kb
    have kt := fun W c0 c1 c2 => spec_l14Written w.heap.size 0 i f u W bi b0 b1 b2 b3 c0 c1 c2
    rw [if_pos rfl]
    generalize workerTx i f u = R at *
    go_enter Tryd.func25, Tryd.ntmps25
    go_wp2_with (first | (go_at_call 56; refine (kb _ (by go_cell) (by go_cell) (by go_cell)).mono ?_; rintro e w1 ⟨rfl, hb⟩; have hB1 : Below w.heap.size w w1 := Below.trans (by go_grown) (hb.mono (by go_size)); have k0 : w1.cell? ⟨w.heap.size, 0, none⟩ = some (.string i) := (hb.cell (p := ⟨w.heap.size, 0, none⟩) (by simp)).trans (by go_cell); have k1 : w1.cell? ⟨w.heap.size, 1, none⟩ = some (.int .i64 f) := (hb.cell (p := ⟨w.heap.size, 1, none⟩) (by simp)).trans (by go_cell); have k2 : w1.cell? ⟨w.heap.size, 2, none⟩ = some (.int .i64 u) := (hb.cell (p := ⟨w.heap.size, 2, none⟩) (by simp)).trans (by go_cell)) | (go_at_call 57; refine (kt _ k0 k1 k2).mono ?_; rintro e w2 ⟨rfl, hb2⟩))
    go_returns
    exact ⟨rfl, hB1.trans (hb2.mono hB1.size)⟩

theorem laws_toWorker_x (i : ByteArray) (f u : Int) (w : World) : Calls Tryd.prog 26 #[.agg #[.string i, .int .i64 f, .int .i64 u]] w fun e' w' => e' = .returned (.agg #[.string i, .int .i64 f, .int .i64 u]) ∧ ((w.alloc (.cells #[.string i, .int .i64 f, .int .i64 u] 47)).alloc (.cells #[.string i, .int .i64 f, .int .i64 u] 50)).alloc (.cells #[.string i, .int .i64 f, .int .i64 u] 50) = w' := by
  go_enter Tryd.func26, Tryd.ntmps26
  go_wp2
  go_returns
  exact ⟨rfl, rfl⟩
theorem laws_toWorker_b (i : ByteArray) (f u : Int) (w : World) : Calls Tryd.prog 26 #[.agg #[.string i, .int .i64 f, .int .i64 u]] w fun e' w' => e' = .returned (.agg #[.string i, .int .i64 f, .int .i64 u]) ∧ Below w.heap.size w w' :=
  (laws_toWorker_x i f u w).mono fun _ _ ⟨h, hw⟩ => ⟨h, by rw [← hw]; go_grown⟩

theorem laws_szWorker (i : ByteArray) (f u : Int) (w : World) (hs : i.size ≤ 9223372036854775807) : Calls Tryd.prog 24 #[.agg #[.string i, .int .i64 f, .int .i64 u], .int .i64 1048576] w fun e' w' => ∃ v : Int, e' = .returned (.int .i64 v) ∧ Below w.heap.size w w' := by
  go_enter Tryd.func24, Tryd.ntmps24
  go_wp2
  all_goals
    go_returns
    exact ⟨_, rfl, by go_grown⟩
set_option maxHeartbeats 1000000 in
theorem law_FnExactWorkerText (i : ByteArray) (f u : Int) (w : World) (hs : i.size ≤ 9223372036854775807) (hT : PowAt w) : Calls Tryd.prog 7 #[.agg #[.string i, .int .i64 f, .int .i64 u]] w fun e' w' => e' = .returned (.bool true) ∧ Below w.heap.size w w' := by
  have cs := fun W => spec_WorkerText i f u W hs
  have ci := fun W h => impl_WorkerText i f u W hs h
  have kz := fun W => laws_szWorker i f u W hs
  generalize workerText i f u = R at *
  go_enter Tryd.func7, Tryd.ntmps7
  go_wp2_with (first | (go_at_call 24; (with_reducible refine (kz _).mono ?_); rintro e w1 ⟨v, rfl, hb⟩; have hB : Below w.heap.size w w1 := Below.trans (by go_grown) (hb.mono (by go_size)); have z0 : w.heap.size < w1.heap.size := Nat.lt_of_lt_of_le (by simp) hb.size; have q0 : w1.cell? ⟨w.heap.size, 0, none⟩ = some (.string i) := (hb.cell (p := ⟨w.heap.size, 0, none⟩) (by simp)).trans (by go_cell); have q1 : w1.cell? ⟨w.heap.size, 1, none⟩ = some (.int .i64 f) := (hb.cell (p := ⟨w.heap.size, 1, none⟩) (by simp)).trans (by go_cell); have q2 : w1.cell? ⟨w.heap.size, 2, none⟩ = some (.int .i64 u) := (hb.cell (p := ⟨w.heap.size, 2, none⟩) (by simp)).trans (by go_cell); clear hb) | (go_at_call 26; (with_reducible refine (laws_toWorker_b i f u _).mono ?_); rintro e w2 ⟨rfl, hb⟩; have hB2 := hB.trans (hb.mono hB.size); replace q0 := (hb.cell (p := ⟨w.heap.size, 0, none⟩) z0).trans q0; replace q1 := (hb.cell (p := ⟨w.heap.size, 1, none⟩) z0).trans q1; replace q2 := (hb.cell (p := ⟨w.heap.size, 2, none⟩) z0).trans q2; replace z0 := Nat.lt_of_lt_of_le z0 hb.size; clear hb hB; have hB := hB2; clear hB2) | (go_at_call 25; (with_reducible refine (cs _).mono ?_); rintro e w2 ⟨rfl, hb⟩; have hB2 := hB.trans (hb.mono hB.size); replace q0 := (hb.cell (p := ⟨w.heap.size, 0, none⟩) z0).trans q0; replace q1 := (hb.cell (p := ⟨w.heap.size, 1, none⟩) z0).trans q1; replace q2 := (hb.cell (p := ⟨w.heap.size, 2, none⟩) z0).trans q2; replace z0 := Nat.lt_of_lt_of_le z0 hb.size; clear hb hB; have hB := hB2; clear hB2) | (go_at_call 27; (with_reducible refine (ci _ (hT.below hB)).mono ?_); rintro e w2 ⟨rfl, hb⟩; have hB2 := hB.trans (hb.mono hB.size); replace q0 := (hb.cell (p := ⟨w.heap.size, 0, none⟩) z0).trans q0; replace q1 := (hb.cell (p := ⟨w.heap.size, 1, none⟩) z0).trans q1; replace q2 := (hb.cell (p := ⟨w.heap.size, 2, none⟩) z0).trans q2; replace z0 := Nat.lt_of_lt_of_le z0 hb.size; clear hb hB; have hB := hB2; clear hB2))
  all_goals
    go_returns
    exact ⟨rfl, hB⟩

end Go.Proofs.YtpjmodpneknnhaaDoor
