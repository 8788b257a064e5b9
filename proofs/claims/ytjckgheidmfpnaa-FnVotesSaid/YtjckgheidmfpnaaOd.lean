/-
  Contracts: the odd reading.
-/
import Derived.Test.YtjckgheidmfpnaaKD2
import Derived.Test.YtjckgheidmfpnaaPod
import Derived.Test.YtjckgheidmfpnaaQu
import Derived.Lib.AppendZerosOnto
import Derived.Lib.Walk
namespace Go.Proofs.Ytjckgheidmfpnaa
open Go.RowKit
set_option linter.unusedVariables false
set_option linter.unusedSimpArgs false


/-- append of several numbers. -/
theorem app_ints {ops : Array Oper} {rest : List Oper} {o : Oper} {a : Act} {Q : Exit → Act → World → Prop} (w : World) (hgd : o.guard = none) (s x : Operand)
    (ho : o.op = .call { callee := .builtin .append, args := #[s, x], argTypes := #[24, 24] }) (B : Nat) (v : Value) (L : List Int) (hs : a.eval s = v) (hown : AppOf B w v L)
    (g q m c : Nat) (Y : Nat → Int) (hx : a.eval x = .slice (some ⟨g, q, none⟩) m c) (hg : ∀ j, j < m → w.cell? ⟨g, q + j, none⟩ = some (.int .i64 (Y j))) (hlen : L.length + m ≤ 16777216) (hbase : B ≤ w.heap.size)
    (h : ∀ v' w', AppOf B w' v' (L ++ (List.range m).map Y) → Below B w w' → wpList Try.prog ops Q rest (a.put o.dst v') w') : wpList Try.prog ops Q (o :: rest) a w := by
  obtain ⟨i0, hi, hz0, hz1, hz2⟩ := info_parts int64_parts
  refine wpList_append_own w hgd s x 24 ho B 2 i0 (.int .i64 0) 1 8 Try.underlying24 hi hz0 hz1 hz2 rfl (by decide) v L.length (L.map (Value.int .i64)) hs hown ⟨g, q, none⟩ m c ((List.range m).map fun j => Value.int .i64 (Y j)) hx (by simp) ?_ ?_ (by unfold maxLen; omega) (by omega) hbase ?_
  · intro j u hu
    have hj : j < m := by
      have := (List.getElem?_eq_some_iff.1 hu).1
      simpa using this
    have : (⟨g, q, none⟩ : Addr).add j = ⟨g, q + j, none⟩ := by unfold Addr.add; simp
    rw [this, hg j hj, ← hu]
    simp [hj]
  · intro u hu
    obtain ⟨j, _, rfl⟩ := List.mem_map.1 hu
    rfl
  · intro v' w' h1 h2 _
    refine h v' w' ?_ ?_
    · unfold AppOf
      rw [List.length_append, List.map_append, List.length_map, List.length_range, List.map_map]
      exact h1
    · exact Below.grown (Below.refl _ _) h2 hbase (fun k hk => (World.ownsRow.lt hown k hk).1)
theorem grow_run (m : Nat) (w : World) (h0 : 0 < m) (hm : m ≤ 1000) : ∃ G, m ≤ G ∧ G ≤ 9223372036854775807 ∧ ∀ ty, (Builtin.append_ #[24, 3] ty #[.slice none 0 0, .int .i64 m]).run Try.prog w =
    .ok (.slice (some ⟨w.heap.size, 0, none⟩) m G) (w.drew.alloc (.cells (#[] ++ Builtin.zeroCells #[.int .i64 0] m ++ Builtin.zeroCells #[.int .i64 0] (G - m)) 2)) := by
  obtain ⟨i0, hi, hz0, hz1, hz2⟩ := info_parts int64_parts
  have hold : (Builtin.firstCells i0.size 0 (.slice none 0 0)).run Try.prog w.drew = .ok ([] : List Value).toArray w.drew := run_firstCells_none w.drew i0.size 0 0 0
  refine ⟨grownCap w (0 + m) 0 2, ?_, ?_, fun ty => ?_⟩
  · have := grownCap_ge w (0 + m) 0 2; omega
  · have := grownCap_le_maxLen w (0 + m) 0 2 (by unfold maxLen; omega)
    unfold maxLen at this; omega
  · have h := Lib.run_append_grow_zeros (P := Try.prog) w 24 3 ty 2 i0 (.int .i64 0) .i64 .i64 Try.underlying24 Try.underlying3 hi hz0 none 0 0 [] hold m h0 (by omega) (by omega) (by omega) (by rw [hz2]; omega) (growslice_fits (by omega) (by rw [hz2]; omega))
    rw [Nat.zero_add] at h ⊢
    exact h
theorem slices_Grow_nil (m : Nat) (w : World) (h0 : 0 < m) (hm : m ≤ 1000) : Calls Try.prog 36 #[.slice none 0 0, .int .i64 m] w fun e w' => ∃ v, e = .returned v ∧ AppOf w.heap.size w' v [] ∧ Below w.heap.size w w' := by
  obtain ⟨G, hG0, hG1, hr⟩ := grow_run m w h0 hm
  have h1 : ¬ ((m : Int) < 0) := by omega
  have h4 : (m : Int) > 0 := by omega
  have hz : (#[] ++ Builtin.zeroCells #[.int .i64 0] m ++ Builtin.zeroCells #[.int .i64 0] (G - m) : Array Value).size = G := by simp [Builtin.zeroCells]; omega
  generalize (#[] ++ Builtin.zeroCells #[.int .i64 0] m ++ Builtin.zeroCells #[.int .i64 0] (G - m) : Array Value) = cs at *
  go_enter Try.func36, Try.ntmps36
  go_wp2_with (at_builtin; refine Lib.wpList_append_run _ rfl _ _ _ _ rfl _ _ rfl rfl _ _ (hr _) ?_)
  go_returns
  refine ⟨_, rfl, ⟨rfl, .inr ⟨w.heap.size, G, cs, rfl, Nat.le_refl _, ?_, Nat.zero_le _, by unfold maxLen; omega, by omega, rfl⟩⟩, Below.alloc (Below.drew (Below.refl _ _)) (Nat.le_refl _) _⟩
  show (w.heap.push _)[w.heap.size]? = _
  simp

theorem slices_Concat2 (g b o i q k c c1 c2 : Nat) (Y1 Y2 : Nat → Int) (w : World) (g0 : w.cell? ⟨g, 0, none⟩ = some (.slice (some ⟨b, o, none⟩) i c1)) (g1 : w.cell? ⟨g, 1, none⟩ = some (.slice (some ⟨b, q, none⟩) k c2))
    (y1 : ∀ j, j < i → w.cell? ⟨b, o + j, none⟩ = some (.int .i64 (Y1 j))) (y2 : ∀ j, j < k → w.cell? ⟨b, q + j, none⟩ = some (.int .i64 (Y2 j))) (hb : b < w.heap.size) (hi : i ≤ 100) (hk : k ≤ 100) (h0 : 0 < i + k) :
    Calls Try.prog 26 #[.slice (some ⟨g, 0, none⟩) 2 c] w (RetRow ((List.range i).map Y1 ++ (List.range k).map Y2) w) := by
  have hg : g < w.heap.size := World.block_lt_of_cell? w _ g0
  have kG := fun W => slices_Grow_nil (i + k) W h0 (by omega)
  rw [Int.natCast_add] at kG
  go_enter Try.func26, Try.ntmps26
  go_wp2
  go_loop [3, 11] (fun s j => (j = .int .i64 0 ∧ s = .int .i64 0) ∨ (j = .int .i64 1 ∧ s = .int .i64 i) ∨ (j = .int .i64 2 ∧ s = .int .i64 ((i : Int) + (k : Int)))) (fun _ j => 2 - (intOf j).toNat)
  case atStart => exact .inl ⟨rfl, rfl⟩
  case round =>
    have y1' := Lib.hid y1
    have y2' := Lib.hid y2
    have G0 := Lib.hid g0
    have G1 := Lib.hid g1
    clear y1 y2
    rcases hrel with ⟨rfl, rfl⟩ | ⟨rfl, rfl⟩ | ⟨rfl, rfl⟩
    · go_wp2
      go_round
      case rel => exact .inr (.inl ⟨by go_num, by go_num⟩)
      case measure => simp [intOf]
    · have n0 : ¬ ((i : Int) + (k : Int) < 0) := by omega
      go_wp2
      go_round
      case rel => exact .inr (.inr ⟨by go_num, by go_num⟩)
      case measure => simp [intOf]
    · clear g0 g1
      go_wp2_with (go_at_call 36; (with_reducible refine (kG _).mono ?_); rintro e w1 ⟨v, rfl, hA0, hB0⟩)
      have hsz := hB0.size
      go_loopw [6, 27] (fun s j wr => Below w.heap.size w wr ∧ ((j = .int .i64 0 ∧ AppOf w.heap.size wr s []) ∨ (j = .int .i64 1 ∧ AppOf w.heap.size wr s ((List.range i).map Y1)) ∨ (j = .int .i64 2 ∧ AppOf w.heap.size wr s ((List.range i).map Y1 ++ (List.range k).map Y2)))) (fun _ j _ => 2 - (intOf j).toNat)
      case atStart => exact ⟨hB0, .inl ⟨rfl, hA0⟩⟩
      case round =>
        clear hA0 hB0
        obtain ⟨hB, hrel⟩ := hrel
        have hq := hB.size
        have f0 := (hB.cell (p := ⟨g, 0, none⟩) hg).trans G0.out
        have f1 := (hB.cell (p := ⟨g, 1, none⟩) hg).trans G1.out
        rcases hrel with ⟨rfl, hA⟩ | ⟨rfl, hA⟩ | ⟨rfl, hA⟩
        · go_wp2_with (at_builtin; refine app_ints _ rfl _ _ rfl w.heap.size _ _ rfl hA b o i c1 Y1 rfl (fun j hj => (hB.cell (p := ⟨b, o + j, none⟩) hb).trans (y1'.out j hj)) (by simp; omega) (by omega) ?_; intro v' w2 hA' hw2)
          go_roundw
          case rel => exact ⟨hB.trans hw2, .inr (.inl ⟨by go_num, by simpa using hA'⟩)⟩
          case measure => simp [intOf]
        · go_wp2_with (at_builtin; refine app_ints _ rfl _ _ rfl w.heap.size _ _ rfl hA b q k c2 Y2 rfl (fun j hj => (hB.cell (p := ⟨b, q + j, none⟩) hb).trans (y2'.out j hj)) (by simp; omega) (by omega) ?_; intro v' w2 hA' hw2)
          go_roundw
          case rel => exact ⟨hB.trans hw2, .inr (.inr ⟨by go_num, hA'⟩)⟩
          case measure => simp [intOf]
        · go_wp2
          go_returns
          exact hA.row hB

set_option maxHeartbeats 2000000 in
theorem impl_OddReading (a : Option Addr) (n c : Nat) (Z : Nat → Int) (p : Int) (w : World) (hz : IntsAt w a n Z) (hn : n ≤ 1048576) (hnc : n ≤ c) (hc63 : c ≤ 9223372036854775807) :
    Calls Try.prog 10 #[.slice a n c, .int .i64 p] w fun e w' => e = .returned (.tuple #[.int .i64 (oddV Z n p), .int .i64 (oddC Z n p)]) ∧ Below w.heap.size w w' := by
  have k1 := fun W h => impl_areReadings a n c 3 Z W h hn
  rw [show decide ((3 : Int) ≤ n) = decide (3 ≤ n) by by_cases h : 3 ≤ n <;> simp [h] <;> omega] at k1
  have k2 := fun W => impl_within p 0 1000000 W
  cases h : voteOk Z n p
  · obtain ⟨e1, e2⟩ := odd_2 h
    rw [e1, e2]
    unfold voteOk at h
    clear e1 e2
    cases h1 : (decide (3 ≤ n) && readV Z n)
    · rw [h1] at k1
      clear h h1
      go_enter Try.func10, Try.ntmps10
      go_wp2_with (first | (go_at_call 19; (with_reducible refine (k1 _ hz).mono ?_); rintro e w' ⟨rfl, rfl⟩) | (go_at_call 20; (with_reducible refine (k2 _).mono ?_); rintro e w' ⟨rfl, rfl⟩))
      go_returns
      exact ⟨rfl, by go_grown⟩
    · rw [h1, Bool.true_and] at h
      rw [h1] at k1
      rw [h] at k2
      clear h h1
      go_enter Try.func10, Try.ntmps10
      go_wp2_with (first | (go_at_call 19; (with_reducible refine (k1 _ hz).mono ?_); rintro e w' ⟨rfl, rfl⟩) | (go_at_call 20; (with_reducible refine (k2 _).mono ?_); rintro e w' ⟨rfl, rfl⟩))
      go_returns
      exact ⟨rfl, by go_grown⟩
  · have h0 := h
    unfold voteOk at h
    rw [Bool.and_eq_true] at h
    obtain ⟨h1, h2⟩ := h
    rw [h1] at k1
    rw [h2] at k2
    rw [Bool.and_eq_true, decide_eq_true_eq] at h1
    have hp := (inB_true.1 h2).1
    have h32 := readV_le h1.2
    have h3 := h1.1
    have kA := fun W h => impl_agreeing a n c Z p W h h32 (fun j hj => readV_bd h1.2 hj)
    have HRB := Lib.hid (fun j hj => readV_bd (j := j) h1.2 hj)
    have HL := Lib.hid (agreeL_len Z p n)
    have HG := Lib.hid (fun j h => agreeL_at (Z := Z) (p := p) (n := n) (j := j) h)
    have H3 := Lib.hid (fun h => odd_3 (Z := Z) (n := n) (p := p) h0 h)
    have H0 := Lib.hid (fun x h hx => odd_0 (Z := Z) (n := n) (p := p) (x := x) h0 h hx)
    have HX := Lib.hid (oddI_idx (Z := Z) (p := p) (n := n))
    have HS := Lib.hid (fun h => oddI_some (Z := Z) (n := n) (p := p) hp h3 h)
    have HNo := Lib.hid (fun h => oddI_none (Z := Z) (n := n) (p := p) hp h)
    have hle : oddI Z n p ≤ n := fst_le _ _
    clear h1 h2 h0
    generalize agreeL Z p n = L at *
    go_enter Try.func10, Try.ntmps10
    go_wp2_with (first | (go_at_call 19; (with_reducible refine (k1 _ hz).mono ?_); rintro e w' ⟨rfl, rfl⟩) | (go_at_call 20; (with_reducible refine (k2 _).mono ?_); rintro e w' ⟨rfl, rfl⟩) | fail)
    refine (kA _ hz).mono ?_
    rintro e w1 ⟨a1, c1, rfl, ho, hB⟩
    have hi := ho.ints
    have hLn : L.length = n := HL.out
    rw [hLn] at hi ⊢
    clear hLn
    have hC : IntsAt w1 a1 n (fun i => (cntN Z p n i : Int)) := hi.cong (fun j hj => HG.out j hj)
    clear hi ho kA k1 k2
    have kI := fun W h => slices_Index_int a1 n c1 (fun i => (cntN Z p n i : Int)) 1 W h hn
    rw [HX.out] at kI
    have hz1 := hz.below hB
    by_cases hI : oddI Z n p < n
    · obtain ⟨HS1, HS2⟩ := HS.out hI
      have HS1' := Lib.hid HS1
      have HS2' := Lib.hid HS2
      clear HS1 HS2
      rw [if_pos hI] at kI
      have hM : oddM Z n p (oddI Z n p) = mn (fun j => (cntN (less Z (oddI Z n p)) p (n - 1) j : Int)) (n - 1) := rfl
      obtain ⟨m0, m1⟩ := oddM_bd (Z := Z) (n := n) (i := oddI Z n p) (p := p) h3
      clear HS HNo hle
      generalize oddI Z n p = I at *
      generalize (fun i => (cntN Z p n i : Int)) = C at *
      obtain ⟨b, o, rfl, hb, hcz⟩ := hz1 (by omega)
      have i0 : (0 : Int) ≤ (I : Int) := by omega
      have i1 : (I : Int) ≤ (c : Int) := by omega
      have i2 : (I : Int) + 1 ≤ (n : Int) := by omega
      have i3 : (0 : Int) ≤ (I : Int) + 1 := by omega
      have i4 : (n : Int) ≤ (c : Int) := by omega
      have n0 : ¬ ((I : Int) < 0) := by omega
      go_wp2_with (first | (go_at_call 23; (with_reducible refine (kI _ hC).mono ?_); rintro e w' ⟨rfl, rfl⟩))
      (refine wp_region_cls_tail 7 (by kernel_rfl) (by kernel_rfl) ?_; simp only [List.take_succ_cons, List.take_zero, List.drop_succ_cons, List.drop_zero]; (repeat (go_big_quiet_step (fail))); refine wpQuiet_nil ?_; rintro _ ⟨u, rfl⟩; have hb := u.below; replace hB := hB.trans (hb.mono hB.size); generalize u.w = w' at *; obtain ⟨hc, hf, hs⟩ := bkeep hb; have hq' := hb.size; have hq := hB.size; have hb' := hb; clear hb)
      have hb2 : b < w'.heap.size := Nat.lt_of_lt_of_le hb hb'.size
      have y := fun (O : Obj) j hj => (World.cell?_alloc_lt w' O (a := ⟨b, o + j, none⟩) hb2).trans ((hb'.cell (p := ⟨b, o + j, none⟩) hb).trans (hcz j hj))
      have key : ∀ (q cc c2 : Nat) (O : Obj) (hO : O = Obj.cells #[.slice (some ⟨b, o, none⟩) I cc, .slice (some ⟨b, q, none⟩) (n - (I + 1)) c2] 24) (hqq : n - (I + 1) = 0 ∨ q = o + (I + 1)), Calls Try.prog 26 #[.slice (some ⟨w'.heap.size, 0, none⟩) 2 2] (w'.alloc O) (RetRow (lessL Z I n) (w'.alloc O)) := fun q cc c2 O hO hqq => by
        subst hO
        refine slices_Concat2 w'.heap.size b o I q (n - (I + 1)) 2 cc c2 Z (fun j => Z (I + 1 + j)) _ ?_ ?_ (fun j hj => y _ j (by omega)) (fun j hj => ?_) (by simp; omega) (by omega) (by omega) (by omega)
        · go_cell
        · go_cell
        · rcases hqq with h | h
          · omega
          · rw [h, show o + (I + 1) + j = o + (I + 1 + j) by omega]
            exact y _ (I + 1 + j) (by omega)
      have HLl := Lib.hid (lessL_len (Z := Z) hI)
      have HLa := Lib.hid (fun j hj => lessL_at (Z := Z) (j := j) hj hI)
      have HK := Lib.hid key
      clear key y hcz
      have hbd2 : ∀ j, j < n - 1 → -1000000000 ≤ less Z I j ∧ less Z I j ≤ 1000000000 := fun j hj => by
        obtain ⟨k, hk, _, e⟩ := less_is (Z := Z) hj hI
        rw [e]; exact HRB.out k hk
      have HF3 := Lib.hid (fun h => H3.out (HS1'.out h))
      have HF0 := Lib.hid (fun h => H0.out I (HS2'.out h) hI)
      have hN : (((n - 1 : Nat) : Int)) = (n : Int) - 1 := by omega
      go_wp2_with fail
      all_goals
        first
          | refine (HK.out (o + (I + 1)) _ _ _ rfl (.inr rfl)).mono ?_
          | refine (HK.out o _ _ _ rfl (.inl (by omega))).mono ?_
        rintro e w2 ⟨a2, c2, rfl, ho2, hB2⟩
        have hi2 := ho2.ints
        have hBB : Below w.heap.size w w2 := (hB.alloc hq _).trans (hB2.mono (by simp; omega))
        rw [HLl.out] at hi2 ⊢
        replace hi2 : IntsAt w2 a2 (n - 1) (less Z I) := hi2.cong (fun j hj => HLa.out j hj)
        have kA2 := fun W h => impl_agreeing a2 (n - 1) c2 (less Z I) p W h (by omega) hbd2
        clear ho2 hB2
        go_wp2_with fail
        refine (kA2 _ hi2).mono ?_
        rintro e w3 ⟨a3, c3, rfl, ho3, hB3⟩
        have hi3 := ho3.ints
        rw [agreeL_len] at hi3 ⊢
        replace hi3 : IntsAt w3 a3 (n - 1) (fun j => (cntN (less Z I) p (n - 1) j : Int)) := hi3.cong (fun j hj => agreeL_at hj)
        have kM := fun W h => slices_Min_int a3 (n - 1) c3 (fun j => (cntN (less Z I) p (n - 1) j : Int)) W h (by omega) (by omega)
        rw [← hM] at kM
        have hB5 : Below w.heap.size w w3 := hBB.trans (hB3.mono hBB.size)
        clear ho3 hB3 kA2 hi2
        by_cases hm : oddM Z n p I < ((n - 1 : Nat) : Int)
        · obtain ⟨e1, e2⟩ := HF3.out (by omega)
          have E1 := Lib.hid e1
          have E2 := Lib.hid e2
          clear e1 e2
          generalize (fun j => (cntN (less Z I) p (n - 1) j : Int)) = C3 at *
          generalize oddM Z n p I = M at *
          generalize (n - 1 : Nat) = N at *
          go_wp2_with (go_at_call 27; (with_reducible refine (kM _ hi3).mono ?_); rintro e w' ⟨rfl, rfl⟩)
          go_returns
          exact ⟨by rw [E1.out, E2.out]; rfl, hB5⟩
        · obtain ⟨e1, e2⟩ := HF0.out (by omega)
          have E1 := Lib.hid e1
          have E2 := Lib.hid e2
          clear e1 e2
          generalize (fun j => (cntN (less Z I) p (n - 1) j : Int)) = C3 at *
          generalize oddM Z n p I = M at *
          generalize (n - 1 : Nat) = N at *
          go_wp2_with (go_at_call 27; (with_reducible refine (kM _ hi3).mono ?_); rintro e w' ⟨rfl, rfl⟩)
          go_returns
          exact ⟨by rw [E1.out, E2.out]; rfl, hB5⟩
    · rw [if_neg hI] at kI
      obtain ⟨e1, e2⟩ := H3.out (HNo.out (by omega))
      have E1 := Lib.hid e1
      have E2 := Lib.hid e2
      clear e1 e2
      generalize (fun i => (cntN Z p n i : Int)) = C at *
      go_wp2_with (first | (go_at_call 23; (with_reducible refine (kI _ hC).mono ?_); rintro e w' ⟨rfl, rfl⟩))
      go_returns
      exact ⟨by rw [E1.out, E2.out]; rfl, hB⟩

end Go.Proofs.Ytjckgheidmfpnaa
