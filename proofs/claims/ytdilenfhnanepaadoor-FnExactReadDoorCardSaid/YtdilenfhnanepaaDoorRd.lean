/-
  Contracts: a numeral read by the program; passings, brakes.
-/
import Derived.Test.YtdilenfhnanepaaDoorNx
import Derived.Test.YtdilenfhnanepaaDoorSh4
namespace Go.Proofs.YtdilenfhnanepaaDoor
open Go.RowKit
open Go.Lib (itoa decDigits)
set_option linter.unusedVariables false
set_option linter.unusedSimpArgs false


/-- The variable of that name holds an error. -/
def ErrAt (n : String) (w : World) : Prop := ∃ tp p, w.var? Tryd.prog n = some #[.iface tp p]
structure Tabs (w : World) : Prop where
  pow : PowAt w
  syn : ErrAt "strconv.ErrSyntax" w
  rng : ErrAt "strconv.ErrRange" w
theorem syn_global : Tryd.prog.globalNamed "strconv.ErrSyntax" = some 1 := by kernel_rfl
theorem rng_global : Tryd.prog.globalNamed "strconv.ErrRange" = some 2 := by kernel_rfl
theorem ErrAt.below {n : String} {g : Nat} {w w' : World} (h : ErrAt n w) (hg : Tryd.prog.globalNamed n = some g) (hb : Below w.heap.size w w') : ErrAt n w' := by
  obtain ⟨tp, p, hv⟩ := h
  have hlt : g < w.heap.size := by
    unfold World.var? at hv
    rw [hg] at hv
    rcases Nat.lt_or_ge g w.heap.size with h1 | h1
    · exact h1
    · simp [Array.getElem?_eq_none h1] at hv
  exact ⟨tp, p, var?_below hb hg hlt hv⟩
theorem Tabs.below {w w' : World} (h : Tabs w) (hb : Below w.heap.size w w') : Tabs w' := ⟨h.pow.below hb, h.syn.below syn_global hb, h.rng.below rng_global hb⟩
theorem below_bytes (w : World) (T : TypeId) (t : ByteArray) : Below w.heap.size w (Lib.bytesWorld w T t) :=
  ⟨rfl, rfl, rfl, by rw [Lib.bytesWorld_size]; omega, fun j hj => Lib.bytesWorld_at_old w T t j hj⟩
theorem ba_ne {a b : ByteArray} (h : a ≠ b) : (a.toList == b.toList) = false := by
  rw [beq_eq_false_iff_ne, ByteArray.toList_eq, ByteArray.toList_eq]
  exact fun e => h (data_inj e)
def bareB (s : ByteArray) : ByteArray := ⟨(bare s).toArray⟩
theorem bareB_size (s : ByteArray) : (bareB s).size = (bare s).length := by unfold bareB; simp [ByteArray.size]
set_option maxHeartbeats 1000000 in
theorem impl_ReadDecimal (s : ByteArray) (w : World) (hs : s.size ≤ 1048576) (hT : Tabs w) :
    Calls Tryd.prog 25 #[.string s] w fun e w' => e = .returned (.tuple #[.int .i64 (numR s), .bool (numOk s)]) ∧ Below w.heap.size w w' := by
  have kt : ∀ W, Calls Tryd.prog 43 #[.string s, .string ⟨#[45]⟩] W fun e w' => e = .returned (.string (bareB s)) ∧ W = w' := fun W => (Go.Proofs.Tryd.strings_TrimPrefix s ⟨#[45]⟩ W).mono fun e w' h => ⟨h.1, h.2.symm⟩
  have hsz := bareB_size s
  have hOk := fun z (h : dtx z = s) (hl : (bare s).length ≤ 18) => num_of_text h hl
  have hNo : numOk s = false → numR s = 0 := fun h => by unfold numR; rw [h]; rfl
  by_cases h1 : 1 ≤ (bare s).length ∧ (bare s).length ≤ 18
  · have a1 : ¬ ((bareB s).size : Int) < 1 := by omega
    have a2 : ¬ (18 : Int) < ((bareB s).size : Int) := by omega
    cases hp : Lib.parseIntB 64 s.data.toList with
    | ok v =>
      have hv := Go.Lib.parseIntB_bounds hp
      have hv1 : -9223372036854775808 ≤ v ∧ v ≤ 9223372036854775807 := by omega
      have kp := fun W => Go.Proofs.Tryd.strconv_ParseInt_10_at64_ok s (by omega) v hp W
      have kd := fun W h => impl_Decimal_t v W hv1.1 hv1.2 h
      by_cases he : dtx v = s
      · obtain ⟨e1, e2⟩ := hOk v he h1.2
        rw [e1, e2]
        rw [he] at kd
        generalize bareB s = D at *
        clear hOk hNo he h1 hv hsz
        go_enter Tryd.func25, Tryd.ntmps25
        go_wp2_with (first | (go_at_call 43; (with_reducible refine (kt _).mono ?_); rintro e w' ⟨rfl, rfl⟩) | fail)
        all_goals (try (exfalso; omega))
        refine (kp _).mono ?_
        rintro e w1 ⟨rfl, hw1⟩
        have hB : Below w.heap.size w w1 := by
          rcases hw1 with rfl | ⟨t, rfl⟩
          · exact Below.refl _ _
          · exact below_bytes _ _ _
        clear hw1
        have hT1 := hT.pow.below hB
        have hq := hB.size
        go_wp2_with (go_at_call 40; (with_reducible refine (kd _ hT1).mono ?_); rintro e w2 ⟨rfl, hb⟩; have hB2 := hB.trans (hb.mono hq))
        go_returns
        exact ⟨rfl, hB2⟩
      · have hf : numOk s = false := by
          cases h : numOk s
          · rfl
          · exfalso
            have t := num_text h
            have hp2 := parse_dtx t.2.1 t.2.2
            rw [← t.1, hp] at hp2
            injection hp2 with hp2
            exact he (by rw [hp2]; exact t.1.symm)
        rw [hf, hNo hf]
        have he2 : ((dtx v).toList == s.toList) = false := ba_ne he
        generalize dtx v = V at *
        generalize bareB s = D at *
        clear hOk hNo h1 hv hsz hf
        go_enter Tryd.func25, Tryd.ntmps25
        go_wp2_with (first | (go_at_call 43; (with_reducible refine (kt _).mono ?_); rintro e w' ⟨rfl, rfl⟩) | fail)
        all_goals (try (exfalso; omega))
        refine (kp _).mono ?_
        rintro e w1 ⟨rfl, hw1⟩
        have hB : Below w.heap.size w w1 := by
          rcases hw1 with rfl | ⟨t, rfl⟩
          · exact Below.refl _ _
          · exact below_bytes _ _ _
        clear hw1
        have hT1 := hT.pow.below hB
        have hq := hB.size
        go_wp2_with (go_at_call 40; (with_reducible refine (kd _ hT1).mono ?_); rintro e w2 ⟨rfl, hb⟩; have hB2 := hB.trans (hb.mono hq))
        go_returns
        exact ⟨rfl, hB2⟩
    | «syntax» =>
      have hf : numOk s = false := by
        cases h : numOk s
        · rfl
        · exfalso
          have t := num_text h
          have hp2 := parse_dtx t.2.1 t.2.2
          rw [← t.1, hp] at hp2
          cases hp2
      obtain ⟨tp, p, hvar⟩ := hT.syn
      have kp := Go.Proofs.Tryd.strconv_ParseInt_10_at64_syntax_var s (by omega) hp tp p w hvar
      rw [hf, hNo hf]
      generalize bareB s = D at *
      clear hOk hNo h1 hsz hf hvar
      go_enter Tryd.func25, Tryd.ntmps25
      go_wp2_with (first | (go_at_call 43; (with_reducible refine (kt _).mono ?_); rintro e w' ⟨rfl, rfl⟩) | fail)
      all_goals (try (exfalso; omega))
      refine kp.mono ?_
      rintro e w1 ⟨N, rfl, _, _, hB⟩
      go_wp2
      go_returns
      exact ⟨rfl, hB⟩
    | range =>
      have hf : numOk s = false := by
        cases h : numOk s
        · rfl
        · exfalso
          have t := num_text h
          have hp2 := parse_dtx t.2.1 t.2.2
          rw [← t.1, hp] at hp2
          cases hp2
      obtain ⟨tp, p, hvar⟩ := hT.rng
      have kp := Go.Proofs.Tryd.strconv_ParseInt_10_at64_range_var s (by omega) hp tp p w hvar
      rw [hf, hNo hf]
      generalize bareB s = D at *
      clear hOk hNo h1 hsz hf hvar
      go_enter Tryd.func25, Tryd.ntmps25
      go_wp2_with (first | (go_at_call 43; (with_reducible refine (kt _).mono ?_); rintro e w' ⟨rfl, rfl⟩) | fail)
      all_goals (try (exfalso; omega))
      refine kp.mono ?_
      rintro e w1 ⟨N, rfl, _, _, hB⟩
      go_wp2
      go_returns
      exact ⟨rfl, hB⟩
  · have hf : numOk s = false := by
      cases h : numOk s
      · rfl
      · exfalso
        have t := num_text h
        have := short_of_lt t.2.1 t.2.2
        rw [← t.1] at this
        exact h1 this
    rw [hf, hNo hf]
    have a1 : ((bareB s).size : Int) < 1 ∨ (¬ ((bareB s).size : Int) < 1 ∧ (18 : Int) < ((bareB s).size : Int)) := by omega
    generalize bareB s = D at *
    clear hOk hNo h1 hf hsz
    rcases a1 with a1 | ⟨a1, a2⟩
    all_goals
      go_enter Tryd.func25, Tryd.ntmps25
      go_wp2_with (go_at_call 43; (with_reducible refine (kt _).mono ?_); rintro e w' ⟨rfl, rfl⟩)
      go_returns
      exact ⟨rfl, Below.refl _ _⟩

theorem two_of {L : List ByteArray} (h : L.length = 2) : ∃ p q, L = [p, q] := by
  match L, h with
  | [p, q], _ => exact ⟨p, q, rfl⟩
theorem two_size {s p q : ByteArray} {c : UInt8} (h : splitL s (c.toNat : Int) = [p, q]) : p.size ≤ s.size ∧ q.size ≤ s.size := by
  rw [(split_is_two h).1, ByteArray.size_append, ByteArray.size_append]; omega
theorem StrsOf.two {B : Nat} {w : World} {v : Value} {p q : ByteArray} (h : StrsOf B w v [p, q]) : ∃ g c, v = .slice (some ⟨g, 0, none⟩) 2 c ∧ g < w.heap.size ∧ 2 ≤ c ∧ w.cell? ⟨g, 0, none⟩ = some (.string p) ∧ w.cell? ⟨g, 1, none⟩ = some (.string q) := by
  obtain ⟨g, c, e, hg, hc, hcell⟩ := h.at (by simp)
  exact ⟨g, c, e, hg, hc, by simpa using hcell 0 p rfl, by simpa using hcell 1 q rfl⟩
theorem StrsOf.len {B : Nat} {w : World} {v : Value} {L : List ByteArray} (h : StrsOf B w v L) : ∃ a c, v = .slice a L.length c := by
  obtain ⟨a, c, e, _⟩ := own_outN h
  exact ⟨a, c, e⟩
set_option maxHeartbeats 2000000 in
theorem spec_l12Read (s : ByteArray) (i j : Int) (ok : Bool) (w : World) (hs : s.size ≤ 1048576) (hp : PassIs s i j ok) :
    Calls Tryd.prog 28 #[.string s] w fun e w' => e = .returned (.tuple #[.agg #[.int .i64 i, .int .i64 j], .bool ok]) ∧ Below w.heap.size w w' := by
  have ksp := fun W => spec_l01Split s 64 W hs
  have ko := fun g q i j W c0 c1 => spec_l12One g q i j W c0 c1
  by_cases hlen : (splitL s 64).length = 2
  · obtain ⟨p, q, hpq⟩ := two_of hlen
    have hz := two_size (c := 64) hpq
    rw [hpq] at ksp
    have kp := fun W => spec_l01Number p W (by omega)
    have kq := fun W => spec_l01Number q W (by omega)
    have HY := Lib.hid (fun h1 h2 h3 => pass_spec hp hpq h1 h2 h3)
    have HN := Lib.hid (fun (h : numOk p = true → numOk q = true → passingOk (numR p) (numR q) = true → False) => pass_spec_no hp (fun p' q' e h1 h2 h3 => by
      rw [hpq] at e
      obtain ⟨rfl, e2⟩ := List.cons.inj e
      obtain ⟨rfl, _⟩ := List.cons.inj e2
      exact h h1 h2 h3))
    clear hp hpq hlen hz
    cases h1 : numOk p <;> cases h2 : numOk q
    case true.true =>
      cases h3 : passingOk (numR p) (numR q)
      · obtain ⟨rfl, rfl, rfl⟩ := HN.out (fun _ _ h => by rw [h3] at h; cases h)
        rw [h1] at kp
        rw [h2] at kq
        replace ko := fun g W c0 c1 => ko g 0 (numR p) (numR q) W c0 c1
        rw [h3] at ko
        clear h1 h2 h3 HY HN
        generalize numR p = P at *
        generalize numR q = Q at *
        go_enter Tryd.func28, Tryd.ntmps28
        go_wp2_with fail
        refine (ksp _).mono ?_
        rintro e w1 ⟨v, rfl, hS, hb⟩
        obtain ⟨g, c, rfl, hg, hc2, c0, c1⟩ := hS.two
        obtain ⟨hc, hf, hsx⟩ := bkeep hb
        have z0 : w.heap.size < w1.heap.size := hsx _ (by simp)
        have hB : Below w.heap.size w w1 := Below.trans (by go_grown) (hb.mono (by go_size))
        clear hS hb
        go_wp2_with (first | (go_at_call 34; (with_reducible refine (kp _).mono ?_); rintro e w' ⟨rfl, hb⟩; obtain ⟨hc, hf, hs⟩ := bkeep hb; have hz : w.heap.size < w'.heap.size := (by have := hb.size; (try simp at this); omega); have hB : Below w.heap.size w w' := Below.trans (by go_grown) (hb.mono (by go_size))) | (go_at_call 34; (with_reducible refine (kq _).mono ?_); rintro e w' ⟨rfl, hb⟩; obtain ⟨hc, hf, hs⟩ := bkeep hb; have hz : w.heap.size < w'.heap.size := (by have := hb.size; (try simp at this); omega); have hB : Below w.heap.size w w' := Below.trans (by go_grown) (hb.mono (by go_size))) | (go_at_call 45; refine (ko _ _ (by go_cell) (by go_cell)).mono ?_; rintro e w' ⟨rfl, rfl⟩))
        refine bodyPost_ret (by simp [results, Tryd.results28, go_sem, *]; try rfl) rfl ?_
        exact ⟨rfl, by (first | go_grown | (repeat (first | exact hB | refine Below.alloc ?_ (by simp [World.setCell]; omega) _ | refine below_set ?_ (by omega))))⟩
      · obtain ⟨rfl, rfl, rfl⟩ := HY.out h1 h2 h3
        rw [h1] at kp
        rw [h2] at kq
        replace ko := fun g W c0 c1 => ko g 0 (numR p) (numR q) W c0 c1
        rw [h3] at ko
        clear h1 h2 h3 HY HN
        generalize numR p = P at *
        generalize numR q = Q at *
        go_enter Tryd.func28, Tryd.ntmps28
        go_wp2_with fail
        refine (ksp _).mono ?_
        rintro e w1 ⟨v, rfl, hS, hb⟩
        obtain ⟨g, c, rfl, hg, hc2, c0, c1⟩ := hS.two
        obtain ⟨hc, hf, hsx⟩ := bkeep hb
        have z0 : w.heap.size < w1.heap.size := hsx _ (by simp)
        have hB : Below w.heap.size w w1 := Below.trans (by go_grown) (hb.mono (by go_size))
        clear hS hb
        go_wp2_with (first | (go_at_call 34; (with_reducible refine (kp _).mono ?_); rintro e w' ⟨rfl, hb⟩; obtain ⟨hc, hf, hs⟩ := bkeep hb; have hz : w.heap.size < w'.heap.size := (by have := hb.size; (try simp at this); omega); have hB : Below w.heap.size w w' := Below.trans (by go_grown) (hb.mono (by go_size))) | (go_at_call 34; (with_reducible refine (kq _).mono ?_); rintro e w' ⟨rfl, hb⟩; obtain ⟨hc, hf, hs⟩ := bkeep hb; have hz : w.heap.size < w'.heap.size := (by have := hb.size; (try simp at this); omega); have hB : Below w.heap.size w w' := Below.trans (by go_grown) (hb.mono (by go_size))) | (go_at_call 45; refine (ko _ _ (by go_cell) (by go_cell)).mono ?_; rintro e w' ⟨rfl, rfl⟩))
        refine bodyPost_ret (by simp [results, Tryd.results28, go_sem, *]; try rfl) rfl ?_
        exact ⟨rfl, by (first | go_grown | (repeat (first | exact hB | refine Below.alloc ?_ (by simp [World.setCell]; omega) _ | refine below_set ?_ (by omega))))⟩
    all_goals
      obtain ⟨rfl, rfl, rfl⟩ := HN.out (fun a b _ => by first | exact absurd (a.symm.trans h1) (by decide) | exact absurd (b.symm.trans h2) (by decide))
      rw [h1] at kp
      rw [h2] at kq
      clear h1 h2 HY HN
      generalize numR p = P at *
      generalize numR q = Q at *
      go_enter Tryd.func28, Tryd.ntmps28
      go_wp2_with fail
      refine (ksp _).mono ?_
      rintro e w1 ⟨v, rfl, hS, hb⟩
      obtain ⟨g, c, rfl, hg, hc2, c0, c1⟩ := hS.two
      obtain ⟨hc, hf, hsx⟩ := bkeep hb
      have z0 : w.heap.size < w1.heap.size := hsx _ (by simp)
      have hB : Below w.heap.size w w1 := Below.trans (by go_grown) (hb.mono (by go_size))
      clear hS hb
      go_wp2_with (first | (go_at_call 34; (with_reducible refine (kp _).mono ?_); rintro e w' ⟨rfl, hb⟩; obtain ⟨hc, hf, hs⟩ := bkeep hb; have hz : w.heap.size < w'.heap.size := (by have := hb.size; (try simp at this); omega); have hB : Below w.heap.size w w' := Below.trans (by go_grown) (hb.mono (by go_size))) | (go_at_call 34; (with_reducible refine (kq _).mono ?_); rintro e w' ⟨rfl, hb⟩; obtain ⟨hc, hf, hs⟩ := bkeep hb; have hz : w.heap.size < w'.heap.size := (by have := hb.size; (try simp at this); omega); have hB : Below w.heap.size w w' := Below.trans (by go_grown) (hb.mono (by go_size))) | (go_at_call 45; refine (ko _ _ (by go_cell) (by go_cell)).mono ?_; rintro e w' ⟨rfl, rfl⟩))
      refine bodyPost_ret (by simp [results, Tryd.results28, go_sem, *]; try rfl) rfl ?_
      exact ⟨rfl, by (first | go_grown | (repeat (first | exact hB | refine Below.alloc ?_ (by simp [World.setCell]; omega) _ | refine below_set ?_ (by omega))))⟩
  · obtain ⟨rfl, rfl, rfl⟩ := pass_spec_no hp (fun p' q' e _ _ _ => hlen (by rw [e]; rfl))
    have hn : ((((splitL s 64).length : Nat) : Int) == 2) = false := beq_eq_false_iff_ne.2 (by omega)
    clear hp hlen
    generalize splitL s 64 = L at *
    go_enter Tryd.func28, Tryd.ntmps28
    go_wp2_with fail
    refine (ksp _).mono ?_
    rintro e w1 ⟨v, rfl, hS, hb⟩
    obtain ⟨a, c, rfl⟩ := hS.len
    obtain ⟨hc, hf, hsx⟩ := bkeep hb
    have z0 : w.heap.size < w1.heap.size := hsx _ (by simp)
    have hB : Below w.heap.size w w1 := Below.trans (by go_grown) (hb.mono (by go_size))
    clear hS hb
    go_wp2_with fail
    refine bodyPost_ret (by simp [results, Tryd.results28, go_sem, *]; try rfl) rfl ?_
    exact ⟨rfl, by (first | go_grown | (repeat (first | exact hB | refine Below.alloc ?_ (by simp [World.setCell]; omega) _ | refine below_set ?_ (by omega))))⟩

theorem spec_ReadPassing (s : ByteArray) (i j : Int) (ok : Bool) (w : World) (hs : s.size ≤ 1048576) (hp : PassIs s i j ok) :
    Calls Tryd.prog 13 #[.string s] w fun e w' => e = .returned (.tuple #[.agg #[.int .i64 i, .int .i64 j], .bool ok]) ∧ Below w.heap.size w w' := by
  have k := fun W => spec_l12Read s i j ok W hs hp
  clear hp
  go_enter Tryd.func13, Tryd.ntmps13
  go_wp2_with (go_at_call 28; (with_reducible refine (k _).mono ?_); rintro e w' ⟨rfl, hb⟩; obtain ⟨hc, hf, hs⟩ := bkeep hb; have hz : w.heap.size < w'.heap.size := (by have := hb.size; (try simp at this); omega); have hB : Below w.heap.size w w' := Below.trans (by go_grown) (hb.mono (by go_size)))
  refine bodyPost_ret (by simp [results, Tryd.results13, go_sem, *]; try rfl) rfl ?_
  exact ⟨rfl, by (first | go_grown | (repeat (first | exact hB | refine Below.alloc ?_ (by simp [World.setCell]; omega) _ | refine below_set ?_ (by omega))))⟩

end Go.Proofs.YtdilenfhnanepaaDoor
