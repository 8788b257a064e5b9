/-
  Contracts: a numeral read by the program; passings, brakes.
-/
import Derived.Test.YtejhngkbkcalaaaGreatDoorNx
import Derived.Test.YtejhngkbkcalaaaGreatDoorSh4
namespace Go.Proofs.YtejhngkbkcalaaaGreatDoor
open Go.RowKit
open Go.Lib (itoa decDigits)
set_option linter.unusedVariables false
set_option linter.unusedSimpArgs false


/-- The variable of that name holds an error. -/
def ErrAt (n : String) (w : World) : Prop := ∃ tp p, w.var? Tryz.prog n = some #[.iface tp p]
structure Tabs (w : World) : Prop where
  pow : PowAt w
  syn : ErrAt "strconv.ErrSyntax" w
  rng : ErrAt "strconv.ErrRange" w
theorem syn_global : Tryz.prog.globalNamed "strconv.ErrSyntax" = some 2 := by kernel_rfl
theorem rng_global : Tryz.prog.globalNamed "strconv.ErrRange" = some 3 := by kernel_rfl
theorem ErrAt.below {n : String} {g : Nat} {w w' : World} (h : ErrAt n w) (hg : Tryz.prog.globalNamed n = some g) (hb : Below w.heap.size w w') : ErrAt n w' := by
  obtain ⟨tp, p, hv⟩ := h
  have hlt : g < w.heap.size := by
    unfold World.var? at hv
    rw [hg] at hv
    rcases Nat.lt_or_ge g w.heap.size with h1 | h1
    · exact h1
    · simp [Array.getElem?_eq_none h1] at hv
  exact ⟨tp, p, var?_below hb hg hlt hv⟩
theorem Tabs.below {w w' : World} (h : Tabs w) (hb : Below w.heap.size w w') : Tabs w' := ⟨h.pow.below hb, h.syn.below syn_global hb, h.rng.below rng_global hb⟩
theorem below_bytes (w : World) (T : TypeId) (t : ByteArray) : Below w.heap.size w (Lib.bytesWorld w T t) :=
  ⟨rfl, rfl, rfl, by rw [Lib.bytesWorld_size]; omega, fun j hj => Lib.bytesWorld_at_old w T t j hj⟩
def bareB (s : ByteArray) : ByteArray := ⟨(bare s).toArray⟩
theorem bareB_size (s : ByteArray) : (bareB s).size = (bare s).length := by unfold bareB; simp [ByteArray.size]
set_option maxHeartbeats 1000000 in
theorem impl_ReadDecimal (s : ByteArray) (w : World) (hs : s.size ≤ 1048576) (hT : Tabs w) :
    Calls Tryz.prog 55 #[.string s] w fun e w' => e = .returned (.tuple #[.int .i64 (numR s), .bool (numOk s)]) ∧ Below w.heap.size w w' := by
  have kt : ∀ W, Calls Tryz.prog 61 #[.string s, .string ⟨#[45]⟩] W fun e w' => e = .returned (.string (bareB s)) ∧ W = w' := fun W => (Go.Proofs.Tryz.strings_TrimPrefix s ⟨#[45]⟩ W).mono fun e w' h => ⟨h.1, h.2.symm⟩
  have hsz := bareB_size s
  have hOk := fun z (h : dtx z = s) (hl : (bare s).length ≤ 18) => num_of_text h hl
  have hNo : numOk s = false → numR s = 0 := fun h => by unfold numR; rw [h]; rfl
  by_cases h1 : 1 ≤ (bare s).length ∧ (bare s).length ≤ 18
  · have a1 : ¬ ((bareB s).size : Int) < 1 := by omega
    have a2 : ¬ (18 : Int) < ((bareB s).size : Int) := by omega
    cases hp : Lib.parseIntB 64 s.data.toList with
    | ok v =>
      have hv := Go.Lib.parseIntB_bounds hp
      have hv1 : -9223372036854775808 ≤ v ∧ v ≤ 9223372036854775807 := by omega
      have kp := fun W => Go.Proofs.Tryz.strconv_ParseInt_10_at64_ok s (by omega) v hp W
      have kd := fun W h => impl_Decimal_t v W hv1.1 hv1.2 h
      by_cases he : dtx v = s
      · obtain ⟨e1, e2⟩ := hOk v he h1.2
        rw [e1, e2]
        rw [he] at kd
        generalize bareB s = D at *
        clear hOk hNo he h1 hv hsz
        go_enter Tryz.func55, Tryz.ntmps55
        go_wp2_with (first | (go_at_call 61; (with_reducible refine (kt _).mono ?_); rintro e w' ⟨rfl, rfl⟩) | fail)
        all_goals (try (exfalso; omega))
        refine (kp _).mono ?_
        rintro e w1 ⟨rfl, hw1⟩
        have hB : Below w.heap.size w w1 := by
          rcases hw1 with rfl | ⟨t, rfl⟩
          · exact Below.refl _ _
          · exact below_bytes _ _ _
        clear hw1
        have hT1 := hT.pow.below hB
        have hq := hB.size
        go_wp2_with (go_at_call 50; (with_reducible refine (kd _ hT1).mono ?_); rintro e w2 ⟨rfl, hb⟩; have hB2 := hB.trans (hb.mono hq))
        go_returns
        exact ⟨rfl, hB2⟩
      · have hf : numOk s = false := by
          cases h : numOk s
          · rfl
          · exfalso
            have t := num_text h
            have hp2 := parse_dtx t.2.1 t.2.2
            rw [← t.1, hp] at hp2
            injection hp2 with hp2
            exact he (by rw [hp2]; exact t.1.symm)
        rw [hf, hNo hf]
        have he2 : ((dtx v).toList == s.toList) = false := ba_ne he
        generalize dtx v = V at *
        generalize bareB s = D at *
        clear hOk hNo h1 hv hsz hf
        go_enter Tryz.func55, Tryz.ntmps55
        go_wp2_with (first | (go_at_call 61; (with_reducible refine (kt _).mono ?_); rintro e w' ⟨rfl, rfl⟩) | fail)
        all_goals (try (exfalso; omega))
        refine (kp _).mono ?_
        rintro e w1 ⟨rfl, hw1⟩
        have hB : Below w.heap.size w w1 := by
          rcases hw1 with rfl | ⟨t, rfl⟩
          · exact Below.refl _ _
          · exact below_bytes _ _ _
        clear hw1
        have hT1 := hT.pow.below hB
        have hq := hB.size
        go_wp2_with (go_at_call 50; (with_reducible refine (kd _ hT1).mono ?_); rintro e w2 ⟨rfl, hb⟩; have hB2 := hB.trans (hb.mono hq))
        go_returns
        exact ⟨rfl, hB2⟩
    | «syntax» =>
      have hf : numOk s = false := by
        cases h : numOk s
        · rfl
        · exfalso
          have t := num_text h
          have hp2 := parse_dtx t.2.1 t.2.2
          rw [← t.1, hp] at hp2
          cases hp2
      obtain ⟨tp, p, hvar⟩ := hT.syn
      have kp := Go.Proofs.Tryz.strconv_ParseInt_10_at64_syntax_var s (by omega) hp tp p w hvar
      rw [hf, hNo hf]
      generalize bareB s = D at *
      clear hOk hNo h1 hsz hf hvar
      go_enter Tryz.func55, Tryz.ntmps55
      go_wp2_with (first | (go_at_call 61; (with_reducible refine (kt _).mono ?_); rintro e w' ⟨rfl, rfl⟩) | fail)
      all_goals (try (exfalso; omega))
      refine kp.mono ?_
      rintro e w1 ⟨N, rfl, _, _, hB⟩
      go_wp2
      go_returns
      exact ⟨rfl, hB⟩
    | range =>
      have hf : numOk s = false := by
        cases h : numOk s
        · rfl
        · exfalso
          have t := num_text h
          have hp2 := parse_dtx t.2.1 t.2.2
          rw [← t.1, hp] at hp2
          cases hp2
      obtain ⟨tp, p, hvar⟩ := hT.rng
      have kp := Go.Proofs.Tryz.strconv_ParseInt_10_at64_range_var s (by omega) hp tp p w hvar
      rw [hf, hNo hf]
      generalize bareB s = D at *
      clear hOk hNo h1 hsz hf hvar
      go_enter Tryz.func55, Tryz.ntmps55
      go_wp2_with (first | (go_at_call 61; (with_reducible refine (kt _).mono ?_); rintro e w' ⟨rfl, rfl⟩) | fail)
      all_goals (try (exfalso; omega))
      refine kp.mono ?_
      rintro e w1 ⟨N, rfl, _, _, hB⟩
      go_wp2
      go_returns
      exact ⟨rfl, hB⟩
  · have hf : numOk s = false := by
      cases h : numOk s
      · rfl
      · exfalso
        have t := num_text h
        have := short_of_lt t.2.1 t.2.2
        rw [← t.1] at this
        exact h1 this
    rw [hf, hNo hf]
    have a1 : ((bareB s).size : Int) < 1 ∨ (¬ ((bareB s).size : Int) < 1 ∧ (18 : Int) < ((bareB s).size : Int)) := by omega
    generalize bareB s = D at *
    clear hOk hNo h1 hf hsz
    rcases a1 with a1 | ⟨a1, a2⟩
    all_goals
      go_enter Tryz.func55, Tryz.ntmps55
      go_wp2_with (go_at_call 61; (with_reducible refine (kt _).mono ?_); rintro e w' ⟨rfl, rfl⟩)
      go_returns
      exact ⟨rfl, Below.refl _ _⟩

end Go.Proofs.YtejhngkbkcalaaaGreatDoor
