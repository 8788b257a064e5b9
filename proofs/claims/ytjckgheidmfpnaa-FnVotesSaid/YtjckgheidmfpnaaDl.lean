/-
  Contracts: lists of numbers drawn from bytes: some list in its bounds.
-/
import Derived.Test.YtjckgheidmfpnaaSrc
import Derived.Test.YtjckgheidmfpnaaAp
import Derived.Test.YtjckgheidmfpnaaBr
import Derived.StillTail
import Derived.Deep.DeepCutAuto
namespace Go.Proofs.Ytjckgheidmfpnaa
open Go.RowKit
set_option linter.unusedVariables false
set_option linter.unusedSimpArgs false

theorem AppOf.outc {B : Nat} {w : World} {v : Value} {L : List Int} (h : AppOf B w v L) : ∃ a c, v = .slice a L.length c ∧ L.length ≤ c ∧ c ≤ maxLen ∧ OwnIn B w.heap.size w a L.length (fun j => .int .i64 (L.getD j 0)) := by
  have h0 := h
  rcases h.2 with ⟨rfl, hn⟩ | ⟨g, cap, cur, rfl, hB, hg, hnc, hcc, _⟩
  · exact ⟨none, 0, by rw [hn], by omega, by unfold maxLen; omega, fun hp => by omega⟩
  · obtain ⟨a, c, e, hO⟩ := own_out h0
    have e1 : cap = c ∧ some (⟨g, 0, none⟩ : Addr) = a := by injection e with e1 e2 e3; exact ⟨e3, e1⟩
    obtain ⟨rfl, rfl⟩ := e1
    exact ⟨_, cap, rfl, hnc, hcc, hO⟩
theorem SrcAt.up {B : Nat} {w w' : World} {g : Nat} {A : Int} (h : SrcAt w g A) (k : Below B w w') (hg : g < B) : SrcAt w' g A := by
  obtain ⟨h0, h1, h2, h3, h4, ⟨S, h5⟩, a, n, c, h6, h7, h8, h9⟩ := h
  refine ⟨h0, Nat.lt_of_lt_of_le h1 k.size, (k.cell (p := ⟨g, 1, none⟩) hg).trans h2, (k.frozen (p := ⟨g, 1, none⟩) hg).trans h3, (k.frozen (p := ⟨g, 2, none⟩) hg).trans h4, ⟨S, (k.cell (p := ⟨g, 2, none⟩) hg).trans h5⟩, a, n, c, (k.cell (p := ⟨g, 0, none⟩) hg).trans h6, h7, fun hn => ?_, h9⟩
  obtain ⟨b, o, e, hb, hc⟩ := h8 hn
  refine ⟨b, o, e, Nat.lt_of_lt_of_le hb k.size, fun j hj => ?_⟩
  obtain ⟨z, z0, z1, hz⟩ := hc j hj
  exact ⟨z, z0, z1, (k.cell (p := ⟨b, o + j, none⟩) (Nat.lt_trans (h9 hn b o e) hg)).trans hz⟩
theorem AppOf.keep {B g : Nat} {w w' : World} {v : Value} {L : List Int} (h : AppOf B w v L) (k : Keep g (g + 1) w w') (hg : g < B) : AppOf B w' v L :=
  World.ownsRow.kept (row := some g) h ⟨k.os, k.tape, k.output, k.size, fun i hi hne => k.block i hi (fun hh => hne (by obtain ⟨h1, h2⟩ := hh; congr 1; omega))⟩ (by
    cases hv : v.ownBlock
    · exact Or.inl rfl
    · rename_i x
      have := (World.ownsRow.lt h x hv).1
      exact Or.inr (fun e => by injection e with e; omega))
theorem Keep.up {lo hi B : Nat} {w w1 w2 : World} (h : Keep lo hi w w1) (k : Below B w1 w2) (hB : w.heap.size ≤ B) : Keep lo hi w w2 :=
  ⟨k.os.trans h.os, k.tape.trans h.tape, k.output.trans h.output, Nat.le_trans h.size k.size, fun i hi hn => (k.block i (by omega)).trans (h.block i hi hn)⟩
/-- The value is a slice of at most m numbers between lo and hi, that lie in a block of the call's own from B on. -/
def NumsIn (B : Nat) (w : World) (v : Value) (m : Nat) (lo hi : Int) : Prop := ∃ (a : Option Addr) (n c : Nat) (Z : Nat → Int), v = .slice a n c ∧ n ≤ m ∧ n ≤ c ∧ c ≤ 9223372036854775807 ∧ OwnIn B w.heap.size w a n (fun j => .int .i64 (Z j)) ∧ ∀ j, j < n → lo ≤ Z j ∧ Z j ≤ hi
theorem AppOf.nums {B m : Nat} {w : World} {v : Value} {L : List Int} {lo hi : Int} (h : AppOf B w v L) (hm : L.length ≤ m) (hv : ∀ y, y ∈ L → lo ≤ y ∧ y ≤ hi) : NumsIn B w v m lo hi := by
  obtain ⟨a, c, rfl, h1, h2, h3⟩ := h.outc
  refine ⟨a, L.length, c, fun j => L.getD j 0, rfl, hm, h1, by unfold maxLen at h2; omega, h3, fun j hj => hv _ ?_⟩
  have : L.getD j 0 = L[j] := by simp [List.getD_eq_getElem?_getD, hj]
  show L.getD j 0 ∈ L
  rw [this]
  exact List.getElem_mem _
theorem NumsIn.keep {B g m : Nat} {w w' : World} {v : Value} {lo hi : Int} (h : NumsIn B w v m lo hi) (k : Keep g (g + 1) w w') (hg : g < B) : NumsIn B w' v m lo hi := by
  obtain ⟨a, n, c, Z, rfl, h1, h2, h3, h4, h5⟩ := h
  exact ⟨a, n, c, Z, rfl, h1, h2, h3, (h4.keep k (by omega)).mono (Nat.le_refl _) k.size, h5⟩
theorem NumsIn.below {B m : Nat} {w w' : World} {v : Value} {lo hi : Int} (h : NumsIn B w v m lo hi) (k : Below w.heap.size w w') : NumsIn B w' v m lo hi := by
  obtain ⟨a, n, c, Z, rfl, h1, h2, h3, h4, h5⟩ := h
  exact ⟨a, n, c, Z, rfl, h1, h2, h3, (h4.below k).mono (Nat.le_refl _) k.size, h5⟩
theorem NumsIn.mono {B B' m : Nat} {w : World} {v : Value} {lo hi : Int} (h : NumsIn B w v m lo hi) (hB : B' ≤ B) : NumsIn B' w v m lo hi := by
  obtain ⟨a, n, c, Z, rfl, h1, h2, h3, h4, h5⟩ := h
  exact ⟨a, n, c, Z, rfl, h1, h2, h3, h4.mono hB (Nat.le_refl _), h5⟩
theorem nums_zero {B m : Nat} (w : World) (n : Nat) (t : TypeId) (h : B ≤ w.heap.size) (hn : n ≤ m) (h2 : n ≤ 1000000) : NumsIn B (w.alloc (.cells (madeCells #[.int .i64 0] n) t)) (.slice (some ⟨w.heap.size, 0, none⟩) n n) m (-1000000001) 1000000001 := by
  have ho := own_new (lo := B) (hi := (w.alloc (.cells (madeCells #[.int .i64 0] n) t)).heap.size) w (madeCells #[.int .i64 0] n) t h (by simp)
  rw [size_madeCells] at ho
  refine ⟨_, n, n, fun _ => 0, rfl, hn, Nat.le_refl _, by omega, ho.cong (fun j hj => ?_), fun j hj => by dsimp only; omega⟩
  have e : madeCells #[Value.int .i64 0] n = ⟨List.replicate n (.int .i64 0)⟩ := by
    rw [← toList_madeCells_one]
  rw [e]
  simp [hj]
/-- The last operations of a drawn region, where only one order is left. -/
theorem wpAny_tail {P : Program} {md : Region.Mode} {ops : Array Oper} {Q : Exit → Act → World → Prop} {f : Nat} {l : Array Bool} {a : Act} {w : World} (k : Nat) (hf : f = (ops.toList.drop k).length) (hB : Region.seqB md ops f k l = true) (h : wpList P ops Q (ops.toList.drop k) a w) : wpAny P md ops Q f l a w := by
  subst hf
  exact wpAny_of_seq _ k l a w (fun j => by simp [List.getElem?_drop]) hB h

theorem spec_among (g : Nat) (A : Int) (b o n c : Nat) (Z : Nat → Int) (w : World) (h : SrcAt w g A) (hA : A ≤ 1000000) (hZ : ∀ j, j < n → w.cell? ⟨b, o + j, none⟩ = some (.int .i64 (Z j))) (hb : b < w.heap.size) (hbg : b ≠ g) (hn : 0 < n) (hn2 : n ≤ 200) :
    Calls Try.prog 28 #[.pointer (some ⟨g, 0, none⟩), .slice (some ⟨b, o, none⟩) n c] w fun e w' => ∃ j A', e = .returned (.int .i64 (Z j)) ∧ j < n ∧ A ≤ A' ∧ A' ≤ A + 2 ∧ SrcAt w' g A' ∧ Keep g (g + 1) w w' := by
  have kp := spec_pick g A n w h hA (by omega)
  clear h
  have HC := Lib.hid hZ
  clear hZ
  go_enter Try.func28, Try.ntmps28
  go_wp2_with fail
  refine kp.mono ?_
  rintro e w1 ⟨x, A1, rfl, x0, x1, a0, a1, H1, K1⟩
  have x1' := x1 (by omega)
  obtain ⟨j, rfl⟩ : ∃ j : Nat, x = j := ⟨x.toNat, by omega⟩
  have hj : j < n := by omega
  have cj := (K1.cellk (b := b) (o := o + j) hb (by omega)).trans (HC.out j hj)
  have HH := Lib.hid H1
  clear H1 x1
  go_wp2
  go_returns
  exact ⟨j, A1, rfl, hj, a0, a1, HH.out, K1⟩

set_option maxHeartbeats 2000000 in
theorem spec_l12DrawReadings (g : Nat) (A : Int) (w : World) (hA : A ≤ 1000) (h : SrcAt w g A) :
    Calls Try.prog 17 #[.pointer (some ⟨g, 0, none⟩)] w fun e w' => ∃ v A', e = .returned v ∧ NumsIn w.heap.size w' v 40 (-1000000001) 1000000001 ∧ A ≤ A' ∧ A' ≤ A + 100 ∧ SrcAt w' g A' ∧ Keep g (g + 1) w w' := by
  have hg := h.lt
  have H := Lib.hid h
  clear h
  go_enter Try.func17, Try.ntmps17
  go_wp2_with fail
  refine (spec_pick g A 6 _ (H.out.below (by go_grown)) (by omega) (by omega)).mono ?_
  rintro e w1 ⟨x, A1, rfl, x0, x1, a0, a1, H1, K1⟩
  have x1' := x1 (by omega)
  obtain ⟨N, rfl⟩ : ∃ N : Nat, x = N := ⟨x.toNat, by omega⟩
  have hU := (AppOf.made (Nat.le_refl w.heap.size)).keep K1 (by omega)
  have KK := (Keep.of_below (lo := g) (hi := g + 1) (show Below w.heap.size w (w.alloc (Obj.cells #[] 2)) from Below.alloc (Below.refl _ _) (Nat.le_refl _) _)).trans K1
  clear K1 x1 H
  go_wp2_with fail
  go_loopw [3, 4] (fun u i wr => ∃ (k : Nat) (L : List Int) (A2 : Int), L.length + k = N + 2 ∧ i = .int .i64 (k : Int) ∧ AppOf w.heap.size wr u L ∧ A ≤ A2 ∧ A2 ≤ A + 2 + 4 * L.length ∧ (∀ v, v ∈ L → 0 ≤ v ∧ v ≤ 200) ∧ SrcAt wr g A2 ∧ Keep g (g + 1) w wr) (fun _ i _ => (intOf i).toNat)
  case atStart => exact ⟨N + 2, [], A1, by simp, by go_num, hU, a0, by simp; omega, by simp, H1, KK⟩
  case round =>
    clear hU H1 KK
    obtain ⟨k, L, A2, hk, rfl, hU, b0, b1, hv, H2, K2⟩ := hrel
    have HV := Lib.hid hv
    clear hv
    by_cases hlt : 0 < k
    · have hlt' : (0 : Int) < (k : Int) := by omega
      go_wp2_with fail
      refine (spec_pick g A2 3 _ H2 (by omega) (by omega)).mono ?_
      rintro e w2 ⟨y, A3, rfl, y0, y1, a2, a3, H3, K3⟩
      have y1' := y1 (by omega)
      have hU3 := hU.keep K3 (by omega)
      have K4 := K2.trans K3
      clear hU H2 K2 K3 y1
      go_wp2_with fail
      refine (spec_pick g A3 9 _ H3 (by omega) (by omega)).mono ?_
      rintro e w3 ⟨z, A4, rfl, z0, z1, a4, a5, H4, K5⟩
      have z1' := z1 (by omega)
      have hU4 := hU3.keep K5 (by omega)
      have K6 := K4.trans K5
      have s6 := K6.size
      have m0 : 0 ≤ y * z := Int.mul_nonneg y0 z0
      have m1 : y * z ≤ 16 := by
        rcases (show y = 0 ∨ y = 1 ∨ y = 2 by omega) with rfl | rfl | rfl <;> omega
      clear hU3 H3 K4 K5 z1
      have hq : wrap64 (100 + wrap64 (y * z)) = 100 + y * z := by
        generalize y * z = q at *
        unfold wrap64
        omega
      go_wp2_with (at_builtin; refine app_int _ rfl _ _ rfl w.heap.size _ _ rfl (hU4.alloc _) w3.heap.size 1 (100 + y * z) rfl (by rw [← hq]; go_cell) (by omega) (by simp; omega) ?_; intro v' w4 hU5 hw4)
      go_roundw
      case rel => exact ⟨k - 1, L ++ [100 + y * z], A4, by simp; omega, by go_num, hU5, by omega, by simp; omega, fun v hv => by
        rcases List.mem_append.1 hv with h | h
        · exact HV.out v h
        · obtain rfl := List.mem_singleton.1 h
          omega, (H4.below (Below.alloc (Below.refl _ _) (Nat.le_refl _) _)).up hw4 hg, (K6.alloc).up hw4 (Nat.le_refl _)⟩
      case measure => simp [intOf]; omega
    · have hlt' : ¬ (0 : Int) < (k : Int) := by omega
      obtain rfl : k = 0 := by omega
      go_wp2_with fail
      refine (spec_pick g A2 18 _ H2 (by omega) (by omega)).mono ?_
      rintro e w2 ⟨y, A3, rfl, y0, y1, a2, a3, H3, K3⟩
      have y1' := y1 (by omega)
      have hU3 := hU.keep K3 (by omega)
      have K4 := K2.trans K3
      have s4 := K4.size
      clear hU H2 K2 K3 y1
      by_cases e0 : y = 0
      · subst e0
        obtain ⟨aU, cU, rfl, hnc, hcc, hO⟩ := hU3.outc
        obtain ⟨b, rfl, _, _, hb, hc⟩ := id hO (by omega)
        go_wp2_with fail
        refine (spec_among g A3 w2.heap.size 0 4 4 (fun j => ([-1000000001, -1000000000, 1000000000, 1000000001] : List Int).getD j 0) _ (H3.below (Below.alloc (Below.refl _ _) (Nat.le_refl _) _)) (by omega) (fun j hj => by
          rcases (show j = 0 ∨ j = 1 ∨ j = 2 ∨ j = 3 by omega) with rfl | rfl | rfl | rfl
          all_goals go_cell) (by simp) (by omega) (by omega) (by omega)).mono ?_
        rintro e w3 ⟨j, A4, rfl, hj, a4, a5, H4, K5⟩
        have hz : -1000000001 ≤ ([-1000000001, -1000000000, 1000000000, 1000000001] : List Int).getD j 0 ∧ ([-1000000001, -1000000000, 1000000000, 1000000001] : List Int).getD j 0 ≤ 1000000001 := by
          rcases (show j = 0 ∨ j = 1 ∨ j = 2 ∨ j = 3 by omega) with rfl | rfl | rfl | rfl
          all_goals simp
        generalize ([-1000000001, -1000000000, 1000000000, 1000000001] : List Int).getD j 0 = z at *
        have hO4 := (hO.below (Below.alloc (Below.refl _ _) (Nat.le_refl _) (Obj.cells #[.int .i64 (-1000000001), .int .i64 (-1000000000), .int .i64 1000000000, .int .i64 1000000001] 2))).keep K5 (by omega)
        have K6 := (K4.alloc (o := Obj.cells #[.int .i64 (-1000000001), .int .i64 (-1000000000), .int .i64 1000000000, .int .i64 1000000001] 2)).trans K5
        have s5 : w2.heap.size ≤ w3.heap.size := by
          have := K5.size
          simp at this
          omega
        have hb3 : b < w3.heap.size := Nat.lt_of_lt_of_le (Nat.lt_succ_of_lt hb) (by simpa using K5.size)
        have c0 := hO4.at (j := 0) (by omega)
        have f0 : w3.frozen? ⟨b, 0, none⟩ = false := by
          obtain ⟨b', e, _, _, _, hc'⟩ := hO4 (by omega)
          injection e with e; injection e with e
          subst e
          exact (hc' 0 (by omega)).2
        clear hc hU3 K4 K5 H3
        go_wp2_with fail
        go_returns
        refine ⟨_, A4, rfl, ⟨_, L.length, cU, fun j => if j = 0 then z else L.getD j 0, rfl, by omega, hnc, by unfold maxLen at hcc; omega, ((hO4.set (by omega) _).mono (Nat.le_refl _) (by simp; exact s5)).cong (fun q hq => ?_), fun q hq => ?_⟩, by omega, by omega, H4.setUp (by omega), K6.setFresh (B := 0) (by omega)⟩
        · by_cases h0 : q = 0 <;> simp [h0]
        · by_cases h0 : q = 0
          · simp only [h0, if_true]; exact hz
          · simp only [h0, if_false]
            have h2 : L.getD q 0 = L[q] := by simp [List.getD_eq_getElem?_getD, hq]
            have := HV.out (L.getD q 0) (by rw [h2]; exact List.getElem_mem _)
            omega
      · by_cases e1 : y = 1
        · subst e1
          go_wp2_with fail
          refine (spec_among g A3 w2.heap.size 0 3 3 (fun j => ([0, 32, 33] : List Int).getD j 0) _ (H3.below (Below.alloc (Below.refl _ _) (Nat.le_refl _) _)) (by omega) (fun j hj => by
            rcases (show j = 0 ∨ j = 1 ∨ j = 2 by omega) with rfl | rfl | rfl
            all_goals go_cell) (by simp) (by omega) (by omega) (by omega)).mono ?_
          rintro e w3 ⟨j, A4, rfl, hj, a4, a5, H4, K5⟩
          have K6 := (K4.alloc (o := Obj.cells #[.int .i64 0, .int .i64 32, .int .i64 33] 2)).trans K5
          have s6 := K6.size
          clear hU3 K4 K5 H3
          obtain ⟨m, hm, hm2⟩ : ∃ m : Nat, ([0, 32, 33] : List Int).getD j 0 = (m : Int) ∧ m ≤ 33 := by
            rcases (show j = 0 ∨ j = 1 ∨ j = 2 by omega) with rfl | rfl | rfl
            · exact ⟨0, rfl, by omega⟩
            · exact ⟨32, rfl, by omega⟩
            · exact ⟨33, rfl, by omega⟩
          rw [hm]
          clear hm hj
          have hmk := fun W => run_make_row' (P := Try.prog) 24 2 (.int .i64 0) 8 Try.underlying24 int64_parts rfl .i64 .i64 m (by omega) (by omega) W
          go_wp2_with fail
          go_returns
          exact ⟨_, A4, rfl, nums_zero _ m _ (by omega) (by omega) (by omega), by omega, by omega, H4.below (Below.alloc (Below.refl _ _) (Nat.le_refl _) _), K6.alloc⟩
        · go_wp2_with fail
          go_returns
          exact ⟨_, _, rfl, hU3.nums (by omega) (fun v hv => by have := HV.out v hv; omega), by omega, by omega, H3, K4⟩

theorem spec_l12DrawApart (g : Nat) (A : Int) (w : World) (hA : A ≤ 1000) (h : SrcAt w g A) :
    Calls Try.prog 18 #[.pointer (some ⟨g, 0, none⟩)] w fun e w' => ∃ v A', e = .returned (.int .i64 v) ∧ A ≤ A' ∧ A' ≤ A + 2 ∧ SrcAt w' g A' ∧ Keep g (g + 1) w w' := by
  have hg := h.lt
  have H := Lib.hid h
  clear h
  go_enter Try.func18, Try.ntmps18
  go_wp2_with fail
  refine (spec_among g A w.heap.size 0 8 8 (fun j => ([0, 0, 1, 2, 5, 1000000, 1000001, -1] : List Int).getD j 0) _ (H.out.below (Below.alloc (Below.refl _ _) (Nat.le_refl _) _)) (by omega) (fun j hj => by
    rcases (show j = 0 ∨ j = 1 ∨ j = 2 ∨ j = 3 ∨ j = 4 ∨ j = 5 ∨ j = 6 ∨ j = 7 by omega) with rfl | rfl | rfl | rfl | rfl | rfl | rfl | rfl
    all_goals go_cell) (by simp) (by omega) (by omega) (by omega)).mono ?_
  rintro e w1 ⟨j, A1, rfl, hj, a0, a1, H1, K1⟩
  have K2 := (Keep.of_below (lo := g) (hi := g + 1) (show Below w.heap.size w (w.alloc (Obj.cells #[.int .i64 0, .int .i64 0, .int .i64 1, .int .i64 2, .int .i64 5, .int .i64 1000000, .int .i64 1000001, .int .i64 (-1)] 2)) from Below.alloc (Below.refl _ _) (Nat.le_refl _) _)).trans K1
  generalize ([0, 0, 1, 2, 5, 1000000, 1000001, -1] : List Int).getD j 0 = z at *
  go_wp2
  go_returns
  exact ⟨_, A1, rfl, a0, a1, H1, K2⟩

theorem spec_DrawVoteOf (a : Option Addr) (n c : Nat) (w : World) (h : BytesAt w a n) (hn : n ≤ 1048576) :
    Calls Try.prog 5 #[.slice a n c] w fun e w' => ∃ v p, e = .returned (.tuple #[v, .int .i64 p]) ∧ NumsIn w.heap.size w' v 40 (-1000000001) 1000000001 ∧ Below w.heap.size w w' := by
  have H := Lib.hid h
  clear h
  go_enter Try.func5, Try.ntmps5
  go_wp2_with fail
  refine (spec_l00From a n c _ H.out hn).mono ?_
  rintro e w1 ⟨g, rfl, hg, HS, hb⟩
  have s1 := hb.size
  have lg := HS.lt
  go_wp2_with fail
  refine (spec_l12DrawReadings g 0 _ (by omega) HS).mono ?_
  rintro e w2 ⟨v, A2, rfl, hv, a0, a1, H2, K2⟩
  have hB2 : Below w.heap.size w w2 := hb.trans (K2.below (by omega) s1)
  clear HS K2 hb
  go_wp2_with fail
  refine (spec_l12DrawApart g A2 _ (by omega) H2).mono ?_
  rintro e w3 ⟨p, A3, rfl, _, _, H3, K3⟩
  have hv3 := (hv.keep K3 lg).mono s1
  have hB3 := hB2.trans (K3.below (by omega) (by have := hB2.size; omega))
  clear hv H2 H3 K3
  go_wp2_with fail
  go_returns
  exact ⟨v, p, rfl, hv3, hB3⟩

set_option maxHeartbeats 1000000 in
theorem spec_DrawOddReading (a : Option Addr) (n c : Nat) (w : World) (h : BytesAt w a n) (hn : n ≤ 1048576) :
    Calls Try.prog 9 #[.slice a n c] w fun e w' => ∃ v p, e = .returned (.tuple #[v, .int .i64 p]) ∧ NumsIn w.heap.size w' v 40 (-1000000001) 1000000001 ∧ Below w.heap.size w w' := by
  have H := Lib.hid h
  clear h
  go_enter Try.func9, Try.ntmps9
  go_wp2_with fail
  refine (spec_l00From a n c _ H.out hn).mono ?_
  rintro e w1 ⟨g, rfl, hg, HS, hb⟩
  have s1 := hb.size
  have lg := HS.lt
  go_wp2_with fail
  refine (spec_l12DrawReadings g 0 _ (by omega) HS).mono ?_
  rintro e w2 ⟨v, A2, rfl, ⟨a', n', c', Z, rfl, n40, nc, cc, hO, hz⟩, a0, a1, H2, K2⟩
  have hB2 : Below w.heap.size w w2 := hb.trans (K2.below (by omega) s1)
  have s2 := hB2.size
  clear HS K2 hb
  have HZ := Lib.hid hz
  clear hz
  go_wp2_with fail
  refine (spec_one g A2 2 _ H2 (by omega) (by omega)).mono ?_
  rintro e w3 ⟨bb, A3, rfl, a2, a3, H3, K3⟩
  have hO3 := (hO.keep K3 (by omega)).mono (Nat.le_refl _) K3.size
  have hB3 := hB2.trans (K3.below (by omega) s2)
  have s3 := hB3.size
  clear hO H2 K3 hB2
  have fin : ∀ W, OwnIn w1.heap.size W.heap.size W a' n' (fun j => .int .i64 (Z j)) → NumsIn w.heap.size W (.slice a' n' c') 40 (-1000000001) 1000000001 := fun W h => ⟨a', n', c', Z, rfl, n40, nc, cc, h.mono s1 (Nat.le_refl _), HZ.out⟩
  by_cases hbn : bb = true ∧ 0 < n'
  · obtain ⟨rfl, h0⟩ := hbn
    have h0' : (0 : Int) < (n' : Int) := by omega
    obtain ⟨bl, rfl, l1, l2, l3, hc⟩ := hO3 h0
    have hP : OwnIn bl (bl + 1) w3 (some ⟨bl, 0, none⟩) n' (fun j => .int .i64 (if j < 0 then 50 else Z j)) := fun _ => ⟨bl, rfl, Nat.le_refl _, Nat.lt_succ_self _, l3, fun j hj => by simpa using hc j hj⟩
    clear hc fin
    go_wp2_with fail
    go_loopw [6] (fun i wr => ∃ k : Nat, k ≤ n' ∧ i = .int .i64 (k : Int) ∧ OwnIn bl (bl + 1) wr (some ⟨bl, 0, none⟩) n' (fun j => .int .i64 (if j < k then 50 else Z j)) ∧ SrcAt wr g A3 ∧ Below w.heap.size w wr) (fun i _ => n' - (intOf i).toNat)
    case atStart => exact ⟨0, by omega, rfl, hP, H3, hB3⟩
    case round =>
      clear hP H3 hB3
      obtain ⟨k, hk, rfl, hP, H3, hB3⟩ := hrel
      have HP := Lib.hid hP
      by_cases hlt : k < n'
      · have ck := hP.at (j := k) hlt
        have fk : wr.frozen? ⟨bl, k, none⟩ = false := by
          obtain ⟨b', e, _, _, _, hc'⟩ := hP h0
          injection e with e; injection e with e
          subst e
          exact (hc' k hlt).2
        clear hP
        go_wp2_with fail
        go_roundw
        case rel => exact ⟨k + 1, by omega, by go_num, (HP.out.set hlt _).cong (fun q hq => by
          by_cases h1 : q = k
          · simp [h1]
          · by_cases h2 : q < k
            · simp [h1, h2, show q < k + 1 by omega]
            · simp [h1, h2, show ¬ q < k + 1 by omega]), H3.setUp (by omega), below_set hB3 (by omega)⟩
        case measure => simp [intOf]; omega
      · obtain rfl : k = n' := by omega
        clear hP
        go_wp2_with fail
        refine (spec_pick g A3 k _ H3 (by omega) (by omega)).mono ?_
        rintro e w4 ⟨x, A4, rfl, x0, x1, a4, a5, H4, K4⟩
        have x1' := x1 (by omega)
        have hP4 := HP.out.keep K4 (by omega)
        have hB4 := hB3.trans (K4.below (by omega) (by have := hB3.size; omega))
        clear H3 K4 hB3 x1
        go_wp2_with fail
        refine (spec_pick g A4 9 _ H4 (by omega) (by omega)).mono ?_
        rintro e w5 ⟨y, A5, rfl, y0, y1, a6, a7, H5, K5⟩
        have y1' := y1 (by omega)
        have hP5 := hP4.keep K5 (by omega)
        have hB5 := hB4.trans (K5.below (by omega) (by have := hB4.size; omega))
        clear H4 K5 hB4 y1 hP4
        obtain ⟨j, rfl⟩ : ∃ j : Nat, x = j := ⟨x.toNat, by omega⟩
        have hj : j < k := by omega
        have ck := hP5.at hj
        have fk : w5.frozen? ⟨bl, j, none⟩ = false := by
          obtain ⟨b', e, _, _, _, hc'⟩ := hP5 h0
          injection e with e; injection e with e
          subst e
          exact (hc' j hj).2
        have HP5 := Lib.hid hP5
        have l5 := OwnIn.block hP5 h0
        clear hP5 HP
        go_wp2_with fail
        refine (spec_l12DrawApart g A5 _ (by omega) (H5.setUp (by omega))).mono ?_
        rintro e w6 ⟨p, A6, rfl, _, _, H6, K6⟩
        have hB6 := (below_set hB5 (by omega : w.heap.size ≤ bl)).trans (K6.below (by omega) (by have := hB5.size; simp; omega))
        have hP6 := ((HP5.out.set hj (.int .i64 (50 + y))).keep K6 (by omega))
        have l6 := K6.size
        simp at l6
        go_wp2_with fail
        go_returns
        refine ⟨_, p, rfl, ⟨_, k, c', fun q => if q = j then 50 + y else 50, rfl, n40, nc, cc, (hP6.mono (by omega) (by omega)).cong (fun q hq => ?_), fun q hq => ?_⟩, hB6⟩
        · by_cases h1 : q = j <;> simp [h1, hq, hj]
        · by_cases h1 : q = j
          · simp only [h1, if_true]; omega
          · simp only [h1, if_false]; omega
  · have hbn' : bb = false ∨ ¬ (0 : Int) < (n' : Int) := by
      cases bb
      · exact Or.inl rfl
      · exact Or.inr (fun h => hbn ⟨rfl, by omega⟩)
    rcases hbn' with rfl | h0
    · go_wp2_with fail
      refine (spec_l12DrawApart g A3 _ (by omega) H3).mono ?_
      rintro e w4 ⟨p, A4, rfl, _, _, H4, K4⟩
      have hB4 := hB3.trans (K4.below (by omega) s3)
      have hO4 := (hO3.mono (Nat.le_refl _) (Nat.le_refl _)).keep K4 (by omega)
      go_wp2_with fail
      go_returns
      exact ⟨_, p, rfl, fin _ (hO4.mono (Nat.le_refl _) K4.size), hB4⟩
    · cases bb
      all_goals
        go_wp2_with fail
        refine (spec_l12DrawApart g A3 _ (by omega) H3).mono ?_
        rintro e w4 ⟨p, A4, rfl, _, _, H4, K4⟩
        have hB4 := hB3.trans (K4.below (by omega) s3)
        have hO4 := (hO3.mono (Nat.le_refl _) (Nat.le_refl _)).keep K4 (by omega)
        go_wp2_with fail
        go_returns
        exact ⟨_, p, rfl, fin _ (hO4.mono (Nat.le_refl _) K4.size), hB4⟩

set_option maxHeartbeats 1000000 in
theorem spec_DrawSettled (a : Option Addr) (n c : Nat) (w : World) (h : BytesAt w a n) (hn : n ≤ 1048576) :
    Calls Try.prog 11 #[.slice a n c] w fun e w' => ∃ v p, e = .returned (.tuple #[v, .int .i64 p]) ∧ NumsIn w.heap.size w' v 40 (-1000000001) 1000000001 ∧ Below w.heap.size w w' := by
  have H := Lib.hid h
  clear h
  go_enter Try.func11, Try.ntmps11
  go_wp2_with fail
  refine (spec_l00From a n c _ H.out hn).mono ?_
  rintro e w1 ⟨g, rfl, hg, HS, hb⟩
  have s1 := hb.size
  have lg := HS.lt
  go_wp2_with fail
  refine (spec_pick g 0 4 _ (HS.below (Below.alloc (Below.refl _ _) (Nat.le_refl _) _)) (by omega) (by omega)).mono ?_
  rintro e w2 ⟨y, A2, rfl, y0, y1, a0, a1, H2, K2⟩
  have y1' := y1 (by omega)
  have hU2 := (AppOf.made (Nat.le_refl w1.heap.size)).keep K2 (by omega)
  have hB2 : Below w.heap.size w w2 := (hb.alloc s1 _).trans (K2.below (by omega) (by simp; omega))
  have t2 : w1.heap.size ≤ w2.heap.size := by
    have := K2.size
    simp at this
    omega
  clear HS K2 hb y1
  go_wp2_with fail
  refine (spec_pick g A2 14 _ H2 (by omega) (by omega)).mono ?_
  rintro e w3 ⟨x, A3, rfl, x0, x1, a2, a3, H3, K3⟩
  have x1' := x1 (by omega)
  obtain ⟨N, rfl⟩ : ∃ N : Nat, x = N := ⟨x.toNat, by omega⟩
  have hU3 := hU2.keep K3 (by omega)
  have hB3 := hB2.trans (K3.below (by omega) (by have := hB2.size; omega))
  have t3 : w1.heap.size ≤ w3.heap.size := by
    have := K3.size
    omega
  clear H2 K3 hU2 hB2 x1
  go_wp2_with fail
  go_loopw [5, 6, 7] (fun u q i wr => ∃ (k : Nat) (L : List Int) (A4 y : Int), L.length + k = N ∧ i = .int .i64 (k : Int) ∧ q = .int .i64 y ∧ 0 ≤ y ∧ y < 4 ∧ AppOf w1.heap.size wr u L ∧ A4 ≤ 4 + 4 * L.length ∧ (∀ v, v ∈ L → 0 ≤ v ∧ v ≤ 200) ∧ SrcAt wr g A4 ∧ Below w.heap.size w wr ∧ w1.heap.size ≤ wr.heap.size) (fun _ _ i _ => (intOf i).toNat)
  case atStart => exact ⟨N, [], A3, y, by simp, by go_num, rfl, y0, y1', hU3, by simp; omega, by simp, H3, hB3, t3⟩
  case round =>
    clear hU3 H3 hB3 y0 y1' a0 a1 a2 a3
    obtain ⟨k, L, A4, yy, hk, rfl, rfl, y0, y1, hU, b1, hv, H4, hB, tr⟩ := hrel
    have HV := Lib.hid hv
    clear hv
    by_cases hlt : 0 < k
    · have hlt' : (0 : Int) < (k : Int) := by omega
      go_wp2_with fail
      refine (spec_one g A4 3 _ H4 (by omega) (by omega)).mono ?_
      rintro e w4 ⟨bb, A5, rfl, a4, a5, H5, K5⟩
      have hU5 := hU.keep K5 (by omega)
      have hB5 := hB.trans (K5.below (by omega) (by have := hB.size; omega))
      have s5 := hB5.size
      have t5 : w1.heap.size ≤ w4.heap.size := Nat.le_trans tr K5.size
      clear hU H4 K5 hB
      cases bb
      · go_wp2_with (at_builtin; refine app_int _ rfl _ _ rfl w1.heap.size _ _ rfl (hU5.alloc _) w4.heap.size 1 yy rfl (by go_cell) (by omega) (by simp; omega) ?_; intro v' w6 hU6 hw6)
        go_roundw
        case rel => exact ⟨k - 1, L ++ [yy], A5, yy, by simp; omega, by go_num, rfl, y0, y1, hU6, by simp; omega, fun v hv => by
          rcases List.mem_append.1 hv with h | h
          · exact HV.out v h
          · obtain rfl := List.mem_singleton.1 h
            omega, (H5.below (Below.alloc (Below.refl _ _) (Nat.le_refl _) _)).up hw6 lg, (hB5.alloc s5 _).trans (hw6.mono s1), Nat.le_trans t5 (Nat.le_trans (by simp) hw6.size)⟩
        case measure => simp [intOf]; omega
      · go_wp2_with fail
        refine (spec_pick g A5 4 _ H5 (by omega) (by omega)).mono ?_
        rintro e w5 ⟨z, A6, rfl, z0, z1, a6, a7, H6, K6⟩
        have z1' := z1 (by omega)
        have hU6 := hU5.keep K6 (by omega)
        have hB6 := hB5.trans (K6.below (by omega) (by have := hB5.size; omega))
        have s6 := hB6.size
        have t6 := Nat.le_trans t5 K6.size
        clear hU5 H5 K6 hB5 z1
        go_wp2_with (at_builtin; refine app_int _ rfl _ _ rfl w1.heap.size _ _ rfl (hU6.alloc _) w5.heap.size 1 z rfl (by go_cell) (by omega) (by simp; omega) ?_; intro v' w6 hU7 hw7)
        go_roundw
        case rel => exact ⟨k - 1, L ++ [z], A6, z, by simp; omega, by go_num, rfl, z0, z1', hU7, by simp; omega, fun v hv => by
          rcases List.mem_append.1 hv with h | h
          · exact HV.out v h
          · obtain rfl := List.mem_singleton.1 h
            omega, (H6.below (Below.alloc (Below.refl _ _) (Nat.le_refl _) _)).up hw7 lg, (hB6.alloc s6 _).trans (hw7.mono s1), Nat.le_trans t6 (Nat.le_trans (by simp) hw7.size)⟩
        case measure => simp [intOf]; omega
    · have hlt' : ¬ (0 : Int) < (k : Int) := by omega
      obtain rfl : k = 0 := by omega
      go_wp2_with fail
      refine (spec_one g A4 14 _ H4 (by omega) (by omega)).mono ?_
      rintro e w4 ⟨bb, A5, rfl, a4, a5, H5, K5⟩
      have hU5 := (hU.keep K5 (by omega)).nums (m := 40) (lo := -1000000001) (hi := 1000000001) (by omega) (fun v hv => by have := HV.out v hv; omega)
      have hB5 := hB.trans (K5.below (by omega) (by have := hB.size; omega))
      have s5 := hB5.size
      have t5 : w1.heap.size ≤ w4.heap.size := Nat.le_trans tr K5.size
      clear hU H4 K5 hB
      have k7 : ∀ (W : World) (A : Int), A ≤ 1000 → SrcAt W g A → w1.heap.size ≤ W.heap.size → Calls Try.prog 28 #[.pointer (some ⟨g, 0, none⟩), .slice (some ⟨W.heap.size, 0, none⟩) 7 7] (W.alloc (Obj.cells #[.int .i64 1, .int .i64 2, .int .i64 2, .int .i64 3, .int .i64 32, .int .i64 33, .int .i64 0] 2)) fun e w' => ∃ v, e = .returned (.int .i64 v) ∧ Keep g (g + 1) W w' := fun W A hA hS hs => by
        refine (spec_among g A W.heap.size 0 7 7 (fun j => ([1, 2, 2, 3, 32, 33, 0] : List Int).getD j 0) _ (hS.below (Below.alloc (Below.refl _ _) (Nat.le_refl _) _)) (by omega) (fun j hj => by
          rcases (show j = 0 ∨ j = 1 ∨ j = 2 ∨ j = 3 ∨ j = 4 ∨ j = 5 ∨ j = 6 by omega) with rfl | rfl | rfl | rfl | rfl | rfl | rfl
          all_goals go_cell) (by simp) (by omega) (by omega) (by omega)).mono ?_
        rintro e w' ⟨j, A', rfl, _, _, _, _, K⟩
        exact ⟨_, rfl, (Keep.of_below (Below.alloc (Below.refl _ _) (Nat.le_refl _) _)).trans K⟩
      cases bb
      · go_wp2_with fail
        refine (k7 _ A5 (by omega) H5 t5).mono ?_
        rintro e w6 ⟨p, rfl, K6⟩
        have hB6 := hB5.trans (K6.below (by omega) s5)
        have hv6 := (hU5.keep K6 lg).mono s1
        go_wp2_with fail
        go_returns
        exact ⟨_, p, rfl, hv6, hB6⟩
      · go_wp2_with fail
        refine (spec_among g A5 w4.heap.size 0 2 2 (fun j => ([32, 33] : List Int).getD j 0) _ (H5.below (Below.alloc (Below.refl _ _) (Nat.le_refl _) _)) (by omega) (fun j hj => by
          rcases (show j = 0 ∨ j = 1 by omega) with rfl | rfl
          all_goals go_cell) (by simp) (by omega) (by omega) (by omega)).mono ?_
        rintro e w5 ⟨j, A6, rfl, hj, a6, a7, H6, K6⟩
        have hB6 := (hB5.alloc s5 (Obj.cells #[.int .i64 32, .int .i64 33] 2)).trans (K6.below (by omega) (by simp; omega))
        have s6 := hB6.size
        have t6 : w1.heap.size ≤ w5.heap.size := by
          have := K6.size
          simp at this
          omega
        clear hU5 K6 H5 hB5
        obtain ⟨m, hm, hm2⟩ : ∃ m : Nat, ([32, 33] : List Int).getD j 0 = (m : Int) ∧ m ≤ 33 := by
          rcases (show j = 0 ∨ j = 1 by omega) with rfl | rfl
          · exact ⟨32, rfl, by omega⟩
          · exact ⟨33, rfl, by omega⟩
        rw [hm]
        clear hm hj
        have hmk := fun W => run_make_row' (P := Try.prog) 24 2 (.int .i64 0) 8 Try.underlying24 int64_parts rfl .i64 .i64 m (by omega) (by omega) W
        have hN := nums_zero (B := w1.heap.size) (m := 40) w5 m 2 t6 (by omega) (by omega)
        have hB7 := hB6.alloc s6 (.cells (madeCells #[.int .i64 0] m) 2)
        have H7 := H6.below (Below.alloc (Below.refl _ _) (Nat.le_refl _) (.cells (madeCells #[.int .i64 0] m) 2))
        have s7 := hB7.size
        have t7 : w1.heap.size ≤ (w5.alloc (.cells (madeCells #[.int .i64 0] m) 2)).heap.size := by simp; omega
        have e6 : (w5.alloc (.cells (madeCells #[.int .i64 0] m) 2)).heap.size = w5.heap.size + 1 := by simp
        go_wp2_with fail
        generalize w5.alloc (.cells (madeCells #[.int .i64 0] m) 2) = w6 at *
        have k8 := k7 w6 A6 (by omega) H7 t7
        rw [e6] at k8
        refine k8.mono ?_
        rintro e w8 ⟨p, rfl, K8⟩
        have hB8 := hB7.trans (K8.below (by omega) s7)
        have hv8 := (hN.keep K8 lg).mono s1
        go_wp2_with fail
        go_returns
        exact ⟨_, p, rfl, hv8, hB8⟩

set_option maxHeartbeats 1000000 in
theorem spec_DrawOffsetOf (a : Option Addr) (n c : Nat) (w : World) (h : BytesAt w a n) (hn : n ≤ 1048576) :
    Calls Try.prog 13 #[.slice a n c] w fun e w' => ∃ v u, e = .returned (.tuple #[v, u]) ∧ NumsIn w.heap.size w' v 40 (-1000000001) 1000000001 ∧ NumsIn w.heap.size w' u 41 (-1000000005) 1000000005 ∧ Below w.heap.size w w' := by
  have H := Lib.hid h
  clear h
  go_enter Try.func13, Try.ntmps13
  go_wp2_with fail
  refine (spec_l00From a n c _ H.out hn).mono ?_
  rintro e w1 ⟨g, rfl, hg, HS, hb⟩
  have s1 := hb.size
  have lg := HS.lt
  go_wp2_with fail
  refine (spec_l12DrawReadings g 0 _ (by omega) HS).mono ?_
  rintro e w2 ⟨v, A2, rfl, ⟨a', n', c', Z, rfl, n40, nc, cc, hO, hz⟩, a0, a1, H2, K2⟩
  have hB2 : Below w.heap.size w w2 := hb.trans (K2.below (by omega) s1)
  have s2 := hB2.size
  have l2 : g < w2.heap.size := H2.lt
  have t2 : w1.heap.size ≤ w2.heap.size := K2.size
  clear HS K2 hb
  have HZ := Lib.hid hz
  clear hz
  have hU := AppOf.made (Nat.le_refl w2.heap.size)
  have HS := H2.below (Below.alloc (Below.refl _ _) (Nat.le_refl _) (Obj.cells #[] 2))
  have hB3 := hB2.alloc s2 (Obj.cells #[] 2)
  have hO3 := hO.below (Below.alloc (Below.refl _ _) (Nat.le_refl _) (Obj.cells #[] 2))
  have t3 : w2.heap.size ≤ (w2.alloc (Obj.cells #[] 2)).heap.size := by simp
  clear hO H2 hB2
  go_wp2_with fail
  generalize w2.alloc (Obj.cells #[] 2) = w3 at *
  go_loopw [6, 7] (fun u i wr => ∃ (k : Nat) (L : List Int) (A4 : Int), k ≤ n' ∧ i = .int .i64 (k : Int) ∧ L.length = k ∧ AppOf w2.heap.size wr u L ∧ OwnIn w1.heap.size w2.heap.size wr a' n' (fun j => .int .i64 (Z j)) ∧ A4 ≤ 100 + 2 * k ∧ (∀ v, v ∈ L → -1000000005 ≤ v ∧ v ≤ 1000000005) ∧ SrcAt wr g A4 ∧ Below w.heap.size w wr ∧ w2.heap.size ≤ wr.heap.size) (fun _ i _ => n' - (intOf i).toNat)
  case atStart => exact ⟨0, [], A2, by omega, rfl, rfl, hU, hO3, by omega, by simp, HS, hB3, t3⟩
  case round =>
    clear hU HS hB3 hO3 t3
    obtain ⟨k, L, A4, hk, rfl, hL, hU, hO, b1, hv, H4, hB, tr⟩ := hrel
    have HV := Lib.hid hv
    clear hv
    by_cases hlt : k < n'
    · obtain ⟨z0, z1⟩ := HZ.out k hlt
      obtain ⟨bl, rfl, l3, l4, l5, hc⟩ := id hO (by omega)
      have ck := (hc k hlt).1
      clear hc
      dsimp only at ck
      have hg2 : g < w2.heap.size := l2
      have hsz : L.length ≤ 16777216 := by omega
      have kp := fun W h => spec_pick g A4 9 W h (by omega) (by omega)
      have HH := Lib.hid H4
      clear H4
      go_upto_region 7 with fail
      refine wp_region_any (by kernel_rfl) ?_
      change wpAny _ _ _ _ _ _ _ (World.drew _)
      (refine wpAny_take (i := 0) (v := ?_) rfl (by kernel_rfl) (by kernel_rfl) (by kernel_rfl) (fun _ _ _ h => h) (Or.inl ⟨by rfl, ?_⟩) ?_; rotate_left; (intro w; go_simp; try (with_reducible rfl)))
      (refine wpAny_take (i := 1) (v := ?_) rfl (by kernel_rfl) (by kernel_rfl) (by kernel_rfl) (fun _ _ _ h => h) (Or.inl ⟨by rfl, ?_⟩) ?_; rotate_left; (intro w; go_simp; try (with_reducible rfl)))
      (refine wpAny_take (i := 2) (v := ?_) rfl (by kernel_rfl) (by kernel_rfl) (by kernel_rfl) (fun _ _ _ h => h) (Or.inl ⟨by rfl, ?_⟩) ?_; rotate_left; (intro w; go_simp; try (with_reducible rfl)))
      (refine wpAny_take (i := 3) (v := ?_) rfl (by kernel_rfl) (by kernel_rfl) (by kernel_rfl) (fun _ _ _ h => h) (Or.inl ⟨by rfl, ?_⟩) ?_; rotate_left; (intro w; go_simp; try (with_reducible rfl)))
      (refine wpAny_take (i := 5) (v := ?_) rfl (by kernel_rfl) (by kernel_rfl) (by kernel_rfl) (fun _ _ _ h => h) (Or.inl ⟨by rfl, ?_⟩) ?_; rotate_left; (intro w; go_simp; try (with_reducible rfl)))
      refine wpAny_ready (rs := [4, 6]) (by kernel_rfl) (by simp) ?_
      refine AllReady.cons rfl (fun K hK => ?_) (AllReady.cons rfl (fun K hK => ?_) AllReady.nil)
      · go_simp
        (refine hK _ _ ?_; clear hK K)
        refine wpAny_ready (rs := [6]) (by kernel_rfl) (by simp) ?_
        refine AllReady.cons rfl (fun K hK => ?_) AllReady.nil
        go_simp
        go_wp2_with (first | (go_at_call 25; (with_reducible refine (kp _ (HH.out.below (by go_grown))).mono ?_); rintro e' wp ⟨y, Ap, rfl, y0, y1, y2, y3, Hp, Kp⟩; have y4 := y1 (by omega); have Kp1 := (Keep.of_below (lo := g) (hi := g + 1) (show Below wr.heap.size wr _ by go_grown)).trans Kp; have hUp := hU.keep Kp1 (by omega); have hOp := hO.keep Kp1 (by omega); have cp := (Kp1.cellk (b := bl) (o := k) l5 (by omega)).trans ck; have sp := Kp1.size; have hBp := hB.trans (Kp1.below (B := w.heap.size) (by omega) (by omega)); clear y1 Kp) | fail)
        refine wpAny_tail 7 (by kernel_rfl) (by kernel_rfl) ?_
        simp only [List.drop_succ_cons, List.drop_zero]
        go_wp2_with (at_builtin; refine app_int _ rfl _ _ rfl w2.heap.size _ L rfl (hUp.alloc _) wp.heap.size 1 (Z k + y - 4) rfl (by go_cell) hsz (by simp; omega) ?_; intro v' w4 hU5 hw4)
        have hO5 : OwnIn w1.heap.size w2.heap.size w4 (some ⟨bl, 0, none⟩) n' (fun j => .int .i64 (Z j)) := fun h0 => by
          obtain ⟨q, e, q1, q2, q3, hc⟩ := hOp.below (Below.alloc (Below.refl _ _) (Nat.le_refl _) (Obj.cells #[.int .i64 (Z k + y - 4)] 2)) h0
          exact ⟨q, e, q1, q2, Nat.lt_of_lt_of_le q3 hw4.size, fun j hj => ⟨(hw4.cell (p := ⟨q, j, none⟩) q2).trans (hc j hj).1, (hw4.frozen (p := ⟨q, j, none⟩) q2).trans (hc j hj).2⟩⟩
        go_roundw
        case rel => exact ⟨k + 1, L ++ [Z k + y - 4], Ap, by omega, by go_num, by simp; omega, hU5, hO5, by omega, fun v hv => by
          rcases List.mem_append.1 hv with h | h
          · exact HV.out v h
          · obtain rfl := List.mem_singleton.1 h
            omega, (Hp.below (Below.alloc (Below.refl _ _) (Nat.le_refl _) _)).up hw4 l2, (hBp.alloc (by omega) _).trans (hw4.mono s2), by have := hw4.size; simp at this; omega⟩
        case measure => simp [intOf]; omega
      · go_simp
        go_wp2_with (first | (go_at_call 25; (with_reducible refine (kp _ (HH.out.below (by go_grown))).mono ?_); rintro e' wp ⟨y, Ap, rfl, y0, y1, y2, y3, Hp, Kp⟩; have y4 := y1 (by omega); have Kp1 := (Keep.of_below (lo := g) (hi := g + 1) (show Below wr.heap.size wr _ by go_grown)).trans Kp; have hUp := hU.keep Kp1 (by omega); have hOp := hO.keep Kp1 (by omega); have cp := (Kp1.cellk (b := bl) (o := k) l5 (by omega)).trans ck; have sp := Kp1.size; have hBp := hB.trans (Kp1.below (B := w.heap.size) (by omega) (by omega)); clear y1 Kp) | fail)
        refine wpAny_ready (rs := [4]) (by kernel_rfl) (by simp) ?_
        refine AllReady.cons rfl (fun K hK => ?_) AllReady.nil
        go_simp
        (refine hK _ _ ?_; clear hK K)
        refine wpAny_tail 7 (by kernel_rfl) (by kernel_rfl) ?_
        simp only [List.drop_succ_cons, List.drop_zero]
        go_wp2_with (at_builtin; refine app_int _ rfl _ _ rfl w2.heap.size _ L rfl (hUp.alloc _) wp.heap.size 1 (Z k + y - 4) rfl (by go_cell) hsz (by simp; omega) ?_; intro v' w4 hU5 hw4)
        have hO5 : OwnIn w1.heap.size w2.heap.size w4 (some ⟨bl, 0, none⟩) n' (fun j => .int .i64 (Z j)) := fun h0 => by
          obtain ⟨q, e, q1, q2, q3, hc⟩ := hOp.below (Below.alloc (Below.refl _ _) (Nat.le_refl _) (Obj.cells #[.int .i64 (Z k + y - 4)] 2)) h0
          exact ⟨q, e, q1, q2, Nat.lt_of_lt_of_le q3 hw4.size, fun j hj => ⟨(hw4.cell (p := ⟨q, j, none⟩) q2).trans (hc j hj).1, (hw4.frozen (p := ⟨q, j, none⟩) q2).trans (hc j hj).2⟩⟩
        go_roundw
        case rel => exact ⟨k + 1, L ++ [Z k + y - 4], Ap, by omega, by go_num, by simp; omega, hU5, hO5, by omega, fun v hv => by
          rcases List.mem_append.1 hv with h | h
          · exact HV.out v h
          · obtain rfl := List.mem_singleton.1 h
            omega, (Hp.below (Below.alloc (Below.refl _ _) (Nat.le_refl _) _)).up hw4 l2, (hBp.alloc (by omega) _).trans (hw4.mono s2), by have := hw4.size; simp at this; omega⟩
        case measure => simp [intOf]; omega
    · obtain rfl : k = n' := by omega
      go_wp2_with fail
      refine (spec_one g A4 12 _ H4 (by omega) (by omega)).mono ?_
      rintro e w4 ⟨bb, A5, rfl, a4, a5, H5, K5⟩
      have hU5 := hU.keep K5 (by omega)
      have hB5 := hB.trans (K5.below (by omega) (by have := hB.size; omega))
      have s5 := hB5.size
      have t5 := Nat.le_trans tr K5.size
      have hO5 := (hO.keep K5 (by omega))
      clear hU H4 K5 hB hO
      cases bb
      · go_wp2_with fail
        go_returns
        exact ⟨_, _, rfl, ⟨a', k, c', Z, rfl, n40, nc, cc, hO5.mono s1 t5, HZ.out⟩, (hU5.nums (by omega) HV.out).mono (by omega), hB5⟩
      · go_wp2_with (at_builtin; refine app_int _ rfl _ _ rfl w2.heap.size _ _ rfl (hU5.alloc _) w4.heap.size 1 5 rfl (by go_cell) (by omega) (by simp; omega) ?_; intro v' w6 hU6 hw6)
        have hO6 := (hO5.below (Below.alloc (Below.refl _ _) (Nat.le_refl _) (Obj.cells #[.int .i64 5] 2)))
        have hO7 : OwnIn w1.heap.size w2.heap.size w6 a' k (fun j => .int .i64 (Z j)) := fun h0 => by
          obtain ⟨q, e, q1, q2, q3, hc⟩ := hO6 h0
          exact ⟨q, e, q1, q2, Nat.lt_of_lt_of_le q3 hw6.size, fun j hj => ⟨(hw6.cell (p := ⟨q, j, none⟩) q2).trans (hc j hj).1, (hw6.frozen (p := ⟨q, j, none⟩) q2).trans (hc j hj).2⟩⟩
        go_returns
        exact ⟨_, _, rfl, ⟨a', k, c', Z, rfl, n40, nc, cc, hO7.mono s1 (by have := hw6.size; simp at this; omega), HZ.out⟩, (hU6.nums (by simp; omega) (fun v hv => by
          rcases List.mem_append.1 hv with h | h
          · exact HV.out v h
          · obtain rfl := List.mem_singleton.1 h
            omega)).mono (by omega), (hB5.alloc s5 _).trans (hw6.mono s2)⟩

end Go.Proofs.Ytjckgheidmfpnaa
