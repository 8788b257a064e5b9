/-
  Contracts: tracks and profiles drawn from bytes.
-/
import Derived.Test.YteccpafoojkmjaaGreatDoorUp
import Derived.Test.YteccpafoojkmjaaGreatDoorBr
import Derived.Test.YteccpafoojkmjaaGreatDoorM1
import Derived.Test.YteccpafoojkmjaaGreatDoorAn
import Derived.Test.YteccpafoojkmjaaGreatDoorR3
import Derived.Test.YteccpafoojkmjaaGreatDoorKC3
import Derived.Test.YteccpafoojkmjaaGreatDoorKN3
import Derived.StillTail
import Derived.Deep.DeepCutAuto
namespace Go.Proofs.YteccpafoojkmjaaGreatDoor
open Go.RowKit
set_option linter.unusedVariables false
set_option linter.unusedSimpArgs false

/-- The slice value holds the sections L in a row of the call's own, from block B on. -/
def pairL (x : Int × Int) : List Value := [.int .i64 x.1, .int .i64 x.2]
def SeOf (B : Nat) (w : World) (v : Value) (L : List (Int × Int)) : Prop := w.ownsRow B 50 2 v L.length (L.flatMap pairL)
theorem sec_info : (Tryz.prog.info? 50).map (fun i => (i.zero, i.size, i.bytes)) = some (some (.agg #[.int .i64 0, .int .i64 0]), 2, 16) := by kernel_rfl
theorem SeOf.snoc {B : Nat} {w : World} {v : Value} {L : List (Int × Int)} {y : Int × Int} (h : w.ownsRow B 50 2 v (L.length + 1) (L.flatMap pairL ++ pairL y)) : SeOf B w v (L ++ [y]) := by
  unfold SeOf
  rw [List.length_append, List.flatMap_append]
  simpa using h
theorem SeOf.alloc {B : Nat} {w : World} {v : Value} {L : List (Int × Int)} (h : SeOf B w v L) (o : Obj) : SeOf B (w.alloc o) v L := World.ownsRow.alloc h o
theorem SeOf.below {B : Nat} {w w' : World} {v : Value} {L : List (Int × Int)} (h : SeOf B w v L) (hb : Below w.heap.size w w') : SeOf B w' v L :=
  World.ownsRow.kept (row := none) h ⟨hb.os, hb.tape, hb.output, hb.size, fun k hk _ => hb.block k hk⟩ (by cases hv : v.ownBlock <;> simp)
theorem SeOf.keep {B g : Nat} {w w' : World} {v : Value} {L : List (Int × Int)} (h : SeOf B w v L) (k : Keep g (g + 1) w w') (hg : g < B) : SeOf B w' v L :=
  World.ownsRow.kept (row := some g) h ⟨k.os, k.tape, k.output, k.size, fun i hi hne => k.block i hi (fun hh => hne (by obtain ⟨h1, h2⟩ := hh; congr 1; omega))⟩ (by
    cases hv : v.ownBlock
    · exact Or.inl rfl
    · rename_i x
      have := (World.ownsRow.lt h x hv).1
      exact Or.inr (fun e => by injection e with e; omega))
theorem SeOf.made {B : Nat} {w : World} (h : B ≤ w.heap.size) : SeOf B (w.alloc (.cells #[] 50)) (.slice (some ⟨w.heap.size, 0, none⟩) 0 0) [] := World.ownsRow_made w #[] 0 h (by decide) rfl
theorem SeOf.pass {B : Nat} {w : World} {v : Value} {L : List (Int × Int)} (h : SeOf B w v L) : ∃ a c, v = .slice a L.length c ∧ PassAt w a L.length (fun k => (L.getD k (0, 0)).1) (fun k => (L.getD k (0, 0)).2) := by
  obtain ⟨a, c, rfl, ho⟩ := own_outN h
  refine ⟨a, c, rfl, fun hn => ?_⟩
  obtain ⟨g, rfl, _, _, hb, hc⟩ := ho (by omega)
  refine ⟨g, 0, rfl, hb, fun k hk => ?_⟩
  have hy : L[k]? = some L[k] := List.getElem?_eq_getElem hk
  have H : ∀ i, i < 2 → w.cell? ⟨g, k * 2 + i, none⟩ = some ((pairL L[k])[i]?.getD (.int .i64 0)) := fun i hi => by
    rw [(hc (k * 2 + i) (by omega)).1]
    show some ((L.flatMap pairL).getD (k * 2 + i) (.int .i64 0)) = _
    rw [List.getD_eq_getElem?_getD, flat_get pairL 2 (fun _ => rfl) L k i _ hy hi]
  have e : L.getD k (0, 0) = L[k] := by simp [List.getD_eq_getElem?_getD, hk]
  dsimp only
  rw [e]
  simp only [Nat.zero_add]
  exact ⟨H 0 (by omega), H 1 (by omega)⟩
theorem cells_two {w : World} {g : Nat} {x y : Int} (c0 : w.cell? ⟨g, 0, none⟩ = some (.int .i64 x)) (c1 : w.cell? ⟨g, 1, none⟩ = some (.int .i64 y)) : ∀ j u, (pairL (x, y))[j]? = some u → w.cell? ⟨g, j, none⟩ = some u := by
  intro j u hu
  cases j with
  | zero => simp [pairL] at hu; subst hu; exact c0
  | succ j =>
    cases j with
    | zero => simp [pairL] at hu; subst hu; exact c1
    | succ j => simp [pairL] at hu
theorem pair_one (y : Int × Int) : ∀ u ∈ pairL y, u.oneCell' = true := by
  intro u hu
  simp only [pairL, List.mem_cons, List.not_mem_nil, or_false] at hu
  rcases hu with rfl | rfl <;> rfl
theorem ownsRow_set {w : World} {B X j : Nat} {e : TypeId} {sz n : Nat} {v u : Value} {xs : List Value} (h : w.ownsRow B e sz v n xs) (hX : ∀ b, v.ownBlock = some b → b < X) : (w.setCell ⟨X, j, none⟩ u).ownsRow B e sz v n xs :=
  ownsRow_blk h (fun b hb => Below.heap_setCell w ⟨X, j, none⟩ u b (fun e => by have := hX b hb; simp at e; omega))
/-- append of one section. -/
theorem app_sec {ops : Array Oper} {rest : List Oper} {o : Oper} {a : Act} {Q : Exit → Act → World → Prop} (w : World) (hgd : o.guard = none) (s x : Operand)
    (ho : o.op = .call { callee := .builtin .append, args := #[s, x], argTypes := #[24, 24] }) (B : Nat) (v : Value) (L : List (Int × Int)) (hs : a.eval s = v) (hown : SeOf B w v L)
    (g c : Nat) (i j : Int) (hx : a.eval x = .slice (some ⟨g, 0, none⟩) 1 c) (c0 : w.cell? ⟨g, 0, none⟩ = some (.int .i64 i)) (c1 : w.cell? ⟨g, 1, none⟩ = some (.int .i64 j)) (hlen : L.length ≤ 16777216) (hbase : B ≤ w.heap.size)
    (h : ∀ v' w', SeOf B w' v' (L ++ [(i, j)]) → Below B w w' → (∀ b, b < w.heap.size → v.ownBlock ≠ some b → w'.heap[b]? = w.heap[b]?) → wpList Tryz.prog ops Q rest (a.put o.dst v') w') : wpList Tryz.prog ops Q (o :: rest) a w :=
  app_cells 24 50 _ 2 16 sec_info Tryz.underlying24 rfl (by decide) (by decide) w hgd s x ho B v L.length _ hs hown g c (pairL (i, j)) hx rfl (cells_two c0 c1) (pair_one _) hlen hbase (fun v' w' h1 h2 h3 => h v' w' (SeOf.snoc h1) h2 h3)
theorem PassAt.set {w : World} {a : Option Addr} {n X j : Nat} {S T : Nat → Int} {u : Value} (h : PassAt w a n S T) (hX : ∀ b o, a = some ⟨b, o, none⟩ → b ≠ X) : PassAt (w.setCell ⟨X, j, none⟩ u) a n S T := fun hn => by
  obtain ⟨b, o, e, hb, hc⟩ := h hn
  have hne := hX b o e
  exact ⟨b, o, e, lt_set hb, fun k hk => ⟨cell_far (hc k hk).1 (by omega), cell_far (hc k hk).2 (by omega)⟩⟩
theorem SeOf.nil (B : Nat) (w : World) : SeOf B w (.slice none 0 0) [] := World.ownsRow_nil w B _ 2
theorem ownsRow_low {w : World} {B X j : Nat} {e : TypeId} {sz n : Nat} {v u : Value} {xs : List Value} (h : w.ownsRow B e sz v n xs) (hX : X < B) : (w.setCell ⟨X, j, none⟩ u).ownsRow B e sz v n xs :=
  ownsRow_blk h (fun b hb => Below.heap_setCell w ⟨X, j, none⟩ u b (fun e => by have := (World.ownsRow.lt h b hb).1; simp at e; omega))
theorem Row3.low {w w' : World} {g B : Nat} {x y z : Value} (h : Row3 w g x y z) (k : Below B w w') (hg : g < B) : Row3 w' g x y z :=
  ⟨(k.cell (p := ⟨g, 0, none⟩) hg).trans h.c0, (k.cell (p := ⟨g, 1, none⟩) hg).trans h.c1, (k.cell (p := ⟨g, 2, none⟩) hg).trans h.c2,
   (k.frozen (p := ⟨g, 0, none⟩) hg).trans h.f0, (k.frozen (p := ⟨g, 1, none⟩) hg).trans h.f1, (k.frozen (p := ⟨g, 2, none⟩) hg).trans h.f2, Nat.lt_of_lt_of_le h.lt k.size⟩
theorem Row3.keep {w w' : World} {b g : Nat} {x y z : Value} (h : Row3 w b x y z) (k : Keep g (g + 1) w w') (hb : b ≠ g) : Row3 w' b x y z :=
  ⟨(k.cellk h.lt (by omega)).trans h.c0, (k.cellk h.lt (by omega)).trans h.c1, (k.cellk h.lt (by omega)).trans h.c2, (k.frozenk h.lt (by omega)).trans h.f0, (k.frozenk h.lt (by omega)).trans h.f1, (k.frozenk h.lt (by omega)).trans h.f2, Nat.lt_of_lt_of_le h.lt k.size⟩
theorem lenT_bd {L : Nat → Int} {lo hi : Int} : ∀ {n : Nat}, (∀ k, k < n → lo ≤ L k ∧ L k ≤ hi) → lo * n ≤ lenT L n ∧ lenT L n ≤ hi * n
  | 0, _ => by simp [lenT]
  | n + 1, h => by
    have ih := lenT_bd (n := n) (fun k hk => h k (by omega))
    have hn := h n (by omega)
    show lo * ((n : Int) + 1) ≤ lenT L n + L n ∧ lenT L n + L n ≤ hi * ((n : Int) + 1)
    rw [Int.mul_add, Int.mul_add]
    omega

set_option maxHeartbeats 4000000 in
set_option maxRecDepth 100000 in
theorem spec_l03Draw (g : Nat) (w : World) (h : SrcAt w g 0) :
    Calls Tryz.prog 21 #[.pointer (some ⟨g, 0, none⟩)] w fun e w' => (∃ a n c L G lf lu, e = .returned (.agg #[.slice a n c, .int .i64 lf, .int .i64 lu]) ∧ PassAt w' a n L G ∧ (∀ b o, a = some ⟨b, o, none⟩ → w.heap.size ≤ b) ∧ trackOk L G n lf lu = true) ∧ Keep g (g + 1) w w' := by
  have hg := h.lt
  have H := Lib.hid h
  clear h
  go_enter Tryz.func21, Tryz.ntmps21
  have R0 := Row3.made w (.slice none 0 0) (.int .i64 0) (.int .i64 0) 26
  have H0 := H.out.below (Below.alloc (Below.refl _ _) (Nat.le_refl _) (Obj.cells #[.slice none 0 0, .int .i64 0, .int .i64 0] 26))
  have K0 : Keep g (g + 1) w (w.alloc (Obj.cells #[.slice none 0 0, .int .i64 0, .int .i64 0] 26)) := Keep.of_below (Below.alloc (Below.refl _ _) (Nat.le_refl _) _)
  go_upto_region 1 with fail
  clear H
  generalize w.alloc (Obj.cells #[.slice none 0 0, .int .i64 0, .int .i64 0] 26) = w0 at *
  generalize hX : w.heap.size = X at *
  have gX : g < X := by omega
  have s0 := R0.lt
  have T1 := Row3.made w0 (.slice none 0 0) (.int .i64 0) (.int .i64 0) 26
  have bA : Below w0.heap.size w0 (w0.alloc (Obj.cells #[.slice none 0 0, .int .i64 0, .int .i64 0] 26)) := Below.alloc (Below.refl _ _) (Nat.le_refl _) _
  have R1 := R0.below bA
  have H1 := H0.below bA
  have K1 : Keep g (g + 1) w (w0.alloc (Obj.cells #[.slice none 0 0, .int .i64 0, .int .i64 0] 26)) := K0.alloc
  go_upto_region 2 with fail
  clear R0 H0 K0 bA
  generalize w0.alloc (Obj.cells #[.slice none 0 0, .int .i64 0, .int .i64 0] 26) = w1 at *
  generalize w0.heap.size = T at *
  go_wp2_with fail
  refine (spec_pick g 0 5 _ H1 (by omega) (by omega)).mono ?_
  rintro e w2 ⟨x, A2, rfl, x0, x1, a2, a3, H2, K2⟩
  have x1' := x1 (by omega)
  obtain ⟨N, rfl⟩ : ∃ N : Nat, x = N := ⟨x.toNat, by omega⟩
  have R2 := R1.keep K2 (by omega)
  have T2 := T1.keep K2 (by omega)
  have K3 := K1.trans K2
  have hS := SeOf.nil (T + 1) w2
  clear R1 T1 H1 K1 K2 x1
  go_wp2_with fail
  have bd0 : ∀ y, y ∈ ([] : List (Int × Int)) → 20000 ≤ y.1 ∧ y.1 ≤ 219000 ∧ 50 ≤ y.2 ∧ y.2 ≤ 640 := fun y hy => by cases hy
  go_loopw [4] (fun i wr => ∃ (k : Nat) (P : List (Int × Int)) (v : Value) (A3 : Int), P.length + k = N + 1 ∧ i = .int .i64 (k : Int) ∧ SeOf (T + 1) wr v P ∧ Row3 wr T v (.int .i64 0) (.int .i64 0) ∧ Row3 wr X (.slice none 0 0) (.int .i64 0) (.int .i64 0) ∧ (∀ y, y ∈ P → 20000 ≤ y.1 ∧ y.1 ≤ 219000 ∧ 50 ≤ y.2 ∧ y.2 ≤ 640) ∧ A3 ≤ 10 + 4 * P.length ∧ SrcAt wr g A3 ∧ Keep g (g + 1) w wr) (fun i _ => (intOf i).toNat)
  case atStart => exact ⟨N + 1, [], .slice none 0 0, A2, by simp, by go_num, hS, T2, R2, bd0, by simp; omega, H2, K3⟩
  case round => as_aux_lemma =>
    clear hS T2 R2 bd0 H2 K3
    obtain ⟨k, P, v, A3, hk, rfl, hS, T2, R2, hbd, b1, H2, K3⟩ := hrel
    have HB := Lib.hid hbd
    clear hbd
    have gT : g < T := by omega
    by_cases hlt : 0 < k
    · have hlt' : (0 : Int) < (k : Int) := by omega
      obtain ⟨av0, cv0, rfl, _⟩ := SeOf.pass hS
      go_wp2_with fail
      refine (spec_pick g A3 200 _ H2 (by omega) (by omega)).mono ?_
      rintro e w3 ⟨p, A4, rfl, p0, p1, a4, a5, H3, K4⟩
      have p1' := p1 (by omega)
      have hS3 := World.ownsRow.kept (row := some g) hS ⟨K4.os, K4.tape, K4.output, K4.size, fun i hi hne => K4.block i hi (fun hh => hne (by obtain ⟨h1, h2⟩ := hh; congr 1; omega))⟩ (by
        cases hv : (Value.slice av0 P.length cv0).ownBlock
        · exact Or.inl rfl
        · rename_i x
          have := (World.ownsRow.lt hS x hv).1
          exact Or.inr (fun e => by injection e with e; omega))
      have T3 := T2.keep K4 (by omega)
      have R3 := R2.keep K4 (by omega)
      have K5 := K3.trans K4
      clear hS T2 R2 H2 K3 K4 p1
      obtain ⟨len, hlen⟩ : ∃ len : Int, len = 20000 + 1000 * p := ⟨_, rfl⟩
      have e3 : 20000 + 1000 * p = len := hlen.symm
      have blen : 20000 ≤ len ∧ len ≤ 219000 := by omega
      clear hlen
      have bA : Below w3.heap.size w3 (w3.alloc (Obj.cells #[.int .i64 len, .int .i64 0] 50)) := Below.alloc (Below.refl _ _) (Nat.le_refl _) _
      have Y0 : (w3.alloc (Obj.cells #[.int .i64 len, .int .i64 0] 50)).cell? ⟨w3.heap.size, 0, none⟩ = some (.int .i64 len) := by go_cell
      have Y1 : (w3.alloc (Obj.cells #[.int .i64 len, .int .i64 0] 50)).cell? ⟨w3.heap.size, 1, none⟩ = some (.int .i64 0) := by go_cell
      have Yf : (w3.alloc (Obj.cells #[.int .i64 len, .int .i64 0] 50)).frozen? ⟨w3.heap.size, 1, none⟩ = false := by go_simp
      have lY : w3.heap.size < (w3.alloc (Obj.cells #[.int .i64 len, .int .i64 0] 50)).heap.size := by simp
      have hS4 := World.ownsRow.alloc hS3 (Obj.cells #[.int .i64 len, .int .i64 0] 50)
      have T4 := T3.below bA
      have R4 := R3.below bA
      have H4 := H3.below bA
      have K6 : Keep g (g + 1) w (w3.alloc (Obj.cells #[.int .i64 len, .int .i64 0] 50)) := K5.alloc
      have lT := T3.lt
      have oV : ∀ b, (Value.slice av0 P.length cv0).ownBlock = some b → b < w3.heap.size := fun b hb => (World.ownsRow.lt hS3 b hb).2
      go_upto_region 6 with fail
      clear hS3 T3 R3 H3 K5 bA
      generalize w3.alloc (Obj.cells #[.int .i64 len, .int .i64 0] 50) = w4 at *
      generalize w3.heap.size = Y at *
      go_wp2_with fail
      refine (spec_pick g A4 60 _ H4 (by omega) (by omega)).mono ?_
      rintro e w5 ⟨q, A5, rfl, q0, q1, a6, a7, H5, K7⟩
      have q1' := q1 (by omega)
      have hS5 := World.ownsRow.kept (row := some g) hS4 ⟨K7.os, K7.tape, K7.output, K7.size, fun i hi hne => K7.block i hi (fun hh => hne (by obtain ⟨h1, h2⟩ := hh; congr 1; omega))⟩ (by
        cases hv : (Value.slice av0 P.length cv0).ownBlock
        · exact Or.inl rfl
        · rename_i x
          have := (World.ownsRow.lt hS4 x hv).1
          exact Or.inr (fun e => by injection e with e; omega))
      have T5 := T4.keep K7 (by omega)
      have R5 := R4.keep K7 (by omega)
      have K8 := K6.trans K7
      replace Y0 := (K7.cellk (o := 0) lY (by omega)).trans Y0
      replace Y1 := (K7.cellk (o := 1) lY (by omega)).trans Y1
      replace Yf := (K7.frozenk (o := 1) lY (by omega)).trans Yf
      replace lY := Nat.lt_of_lt_of_le lY K7.size
      clear hS4 T4 R4 H4 K6 K7 q1
      obtain ⟨gr, hgr⟩ : ∃ gr : Int, gr = 50 + 10 * q := ⟨_, rfl⟩
      have e6 : 50 + 10 * q = gr := hgr.symm
      have bgr : 50 ≤ gr ∧ gr ≤ 640 := by omega
      clear hgr e3
      have hS6 : (w5.setCell ⟨Y, 1, none⟩ (.int .i64 gr)).ownsRow (T + 1) 50 2 (.slice av0 P.length cv0) P.length (P.flatMap pairL) := ownsRow_set hS5 oV
      have T6 := T5.other (b := Y) (j := 1) (u := .int .i64 gr) (by omega)
      have R6 := R5.other (b := Y) (j := 1) (u := .int .i64 gr) (by omega)
      have H6 := H5.setUp (b := Y) (j := 1) (u := .int .i64 gr) (by omega)
      have K9 : Keep g (g + 1) w (w5.setCell ⟨Y, 1, none⟩ (.int .i64 gr)) := K8.setFresh (B := 0) (by omega)
      have Z0 : (w5.setCell ⟨Y, 1, none⟩ (.int .i64 gr)).cell? ⟨Y, 0, none⟩ = some (.int .i64 len) := cell_off Y0 (by decide)
      have Z1 : (w5.setCell ⟨Y, 1, none⟩ (.int .i64 gr)).cell? ⟨Y, 1, none⟩ = some (.int .i64 gr) := cell_same Y1
      go_upto_region 7 with fail
      clear hS5 T5 R5 H5 K8 Y0 Y1 Yf lY oV e6
      generalize w5.setCell ⟨Y, 1, none⟩ (.int .i64 gr) = w6 at *
      have d0 := T6.c0
      have s6 := T6.lt
      go_wp2_with (at_builtin; refine app_sec _ rfl _ _ rfl (T + 1) (.slice av0 P.length cv0) P rfl (World.ownsRow.alloc hS6 _) w6.heap.size 1 len gr rfl (by go_cell) (by go_cell) (by omega) (by simp; omega) ?_; intro v' w8 hP8 hw8 hk8; obtain ⟨av, cv, rfl, _⟩ := SeOf.pass hP8; have T8 := (T6.below (Below.alloc (Below.refl _ _) (Nat.le_refl _) (Obj.cells #[.int .i64 len, .int .i64 gr] 50))).low hw8 (by omega); have d8 := T8.c0; have f8 := T8.f0)
      have R8 := (R6.below (Below.alloc (Below.refl _ _) (Nat.le_refl _) (Obj.cells #[.int .i64 len, .int .i64 gr] 50))).low hw8 (by omega)
      have H8 := (H6.below (Below.alloc (Below.refl _ _) (Nat.le_refl _) (Obj.cells #[.int .i64 len, .int .i64 gr] 50))).up hw8 (by omega)
      have K10 := (K9.alloc (o := (Obj.cells #[.int .i64 len, .int .i64 gr] 50))).up hw8 (by omega)
      have ep : (P ++ [(len, gr)]).length = P.length + 1 := by simp
      rw [ep] at hP8
      have R8 := (R6.below (Below.alloc (Below.refl _ _) (Nat.le_refl _) (Obj.cells #[.int .i64 len, .int .i64 gr] 50))).low hw8 (by omega)
      have H8 := (H6.below (Below.alloc (Below.refl _ _) (Nat.le_refl _) (Obj.cells #[.int .i64 len, .int .i64 gr] 50))).up hw8 (by omega)
      have K10 := (K9.alloc (o := Obj.cells #[.int .i64 len, .int .i64 gr] 50)).up hw8 (by omega)
      go_roundw
      case rel => exact ⟨k - 1, P ++ [(len, gr)], .slice av (P.length + 1) cv, A5, by simp; omega, by go_num, ownsRow_low hP8 (by omega), T8.set0, R8.other (by omega), fun y hy => by
        rcases List.mem_append.1 hy with h | h
        · exact HB.out y h
        · obtain rfl := List.mem_singleton.1 h
          exact ⟨blen.1, blen.2, bgr.1, bgr.2⟩, by simp; omega, H8.setUp (by omega), K10.setFresh (B := 0) (by omega)⟩
      case measure => simp [intOf]; omega
    · have hlt' : ¬ (0 : Int) < (k : Int) := by omega
      obtain rfl : k = 0 := by omega
      obtain ⟨a, c, rfl, hPA⟩ := SeOf.pass hS
      have hPg : ∀ b o, a = some ⟨b, o, none⟩ → T < b := fun b o e => by
        have := (World.ownsRow.lt hS b (by rw [e]; rfl)).1
        omega
      have hn : P.length = N + 1 := by omega
      have hL : ∀ j, j < P.length → 20000 ≤ (P.getD j (0, 0)).1 ∧ (P.getD j (0, 0)).1 ≤ 219000 ∧ 50 ≤ (P.getD j (0, 0)).2 ∧ (P.getD j (0, 0)).2 ≤ 640 := fun j hj => by
        refine HB.out _ ?_
        have e : P.getD j (0, 0) = P[j] := by simp [List.getD_eq_getElem?_getD, hj]
        rw [e]; exact List.getElem_mem _
      have kl := fun W h0 h1 => spec_l03Length T 0 a P.length c (fun k => (P.getD k (0, 0)).1) (fun k => (P.getD k (0, 0)).2) W h0 h1 (by omega) (fun j hj => by have := hL j hj; first | omega | (dsimp only; omega))
      have hlb := lenT_bd (L := fun k => (P.getD k (0, 0)).1) (lo := 20000) (hi := 219000) (n := P.length) (fun j hj => ⟨(hL j hj).1, (hL j hj).2.1⟩)
      have hno : any (fun j => !secB (fun k => (P.getD k (0, 0)).1) (fun k => (P.getD k (0, 0)).2) j) P.length = false := any_false.2 (fun j hj => by
        have := hL j hj
        unfold secB
        rw [inB_true.2 (by dsimp only; omega), inB_true.2 (by dsimp only; omega)]; rfl)
      have FIN : ∀ lf lu, 0 ≤ lf → lf ≤ lu → lu ≤ lenT (fun k => (P.getD k (0, 0)).1) P.length → trackOk (fun k => (P.getD k (0, 0)).1) (fun k => (P.getD k (0, 0)).2) P.length lf lu = true := fun lf lu h1 h2 h3 => by
        unfold trackOk
        rw [decide_eq_true (show 1 ≤ P.length by omega), decide_eq_true (show P.length ≤ 12 by omega), hno, decide_eq_true (by omega), inB_true.2 (by omega), inB_true.2 (by omega)]; rfl
      have HF := Lib.hid FIN
      clear FIN hno hL HB
      generalize lenT (fun k => (P.getD k (0, 0)).1) P.length = len at *
      generalize (fun k => (P.getD k (0, 0)).1) = LL at *
      generalize (fun k => (P.getD k (0, 0)).2) = GG at *
      generalize P.length = n at *
      subst hn
      have c0 := T2.c0
      clear hS
      go_wp2_with fail
      refine (kl _ c0 hPA).mono ?_
      rintro e w3 ⟨rfl, rfl⟩
      go_wp2_with fail
      refine (spec_pick g A3 5 _ H2 (by omega) (by omega)).mono ?_
      rintro e w3 ⟨p, A4, rfl, p0, p1, a4, a5, H3, K4⟩
      have p1' := p1 (by omega)
      have T3 := T2.keep K4 (by omega)
      have R3 := R2.keep K4 (by omega)
      have K5 := K3.trans K4
      have hPA3 : PassAt w3 a (N + 1) LL GG := fun h => by
        obtain ⟨b, o, e, hb, hc⟩ := hPA h
        subst e
        have hbg : T < b := hPg b o rfl
        exact ⟨b, o, rfl, Nat.lt_of_lt_of_le hb K4.size, fun j hj => ⟨(K4.cellk hb (by omega)).trans (hc j hj).1, (K4.cellk hb (by omega)).trans (hc j hj).2⟩⟩
      obtain ⟨half, hhalf⟩ : ∃ half : Int, half = 5000 + 1000 * p := ⟨_, rfl⟩
      have e1 : 5000 + 1000 * p = half := hhalf.symm
      have b2 : 5000 ≤ half ∧ half ≤ 9000 := by omega
      have b3 : 20000 ≤ len ∧ len ≤ 1095000 := by omega
      clear hhalf R2 T2 H2 K3 K4 hPA kl hlb p1
      go_upto_region 10 with fail
      clear e1
      obtain ⟨lf, hlf⟩ : ∃ lf : Int, lf = len / 2 - half := ⟨_, rfl⟩
      have e2 : len / 2 - half = lf := hlf.symm
      have b4 : 1000 ≤ lf ∧ 2 * lf ≤ len := by omega
      have ho := HF.out lf (len - lf) (by omega) (by omega) (by omega)
      have HO := Lib.hid ho
      clear hlf ho HF
      have c0 := T3.c0
      have c1 := T3.c1
      have c2 := T3.c2
      have f1 := T3.f1
      have f2 := T3.f2
      have q0 := R3.c0
      have q1 := R3.c1
      have q2 := R3.c2
      have k0 := R3.f0
      have k1 := R3.f1
      have k2 := R3.f2
      have hTX : T ≠ X := by omega
      go_wp2_with fail
      refine bodyPost_ret (by simp [results, Tryz.results21, go_sem, *]; try rfl) rfl ?_
      refine ⟨⟨a, N + 1, c, LL, GG, lf, len - lf, rfl, ?_, fun b o e => by have := hPg b o e; omega, HO.out⟩, ?_⟩
      · repeat (refine PassAt.set ?_ (fun b o e => by have := hPg b o e; omega))
        exact hPA3
      · repeat (first | exact K5 | refine Keep.setFresh (B := 0) ?_ (by omega))

theorem spec_R8Track (a : Option Addr) (n c : Nat) (w : World) (h : BytesAt w a n) (hn : n ≤ 1048576) :
    Calls Tryz.prog 5 #[.slice a n c] w fun e w' => (∃ a n c L G lf lu, e = .returned (.agg #[.slice a n c, .int .i64 lf, .int .i64 lu]) ∧ PassAt w' a n L G ∧ trackOk L G n lf lu = true) ∧ Below w.heap.size w w' := by
  have H := Lib.hid h
  clear h
  go_enter Tryz.func5, Tryz.ntmps5
  have R0 := Row3.made w (.slice none 0 0) (.int .i64 0) (.int .i64 0) 26
  have H0 := H.out.below (Below.alloc (Below.refl _ _) (Nat.le_refl _) (Obj.cells #[.slice none 0 0, .int .i64 0, .int .i64 0] 26))
  have b0 : Below w.heap.size w (w.alloc (Obj.cells #[.slice none 0 0, .int .i64 0, .int .i64 0] 26)) := Below.alloc (Below.refl _ _) (Nat.le_refl _) _
  go_wp2_with fail
  clear H
  generalize w.alloc (Obj.cells #[.slice none 0 0, .int .i64 0, .int .i64 0] 26) = w0 at *
  generalize hX : w.heap.size = X at *
  have s0 := R0.lt
  refine (spec_l00From a n c _ H0 hn).mono ?_
  rintro e w1 ⟨g, rfl, hg, HS, hb⟩
  have R1 := R0.below hb
  have b1 := b0.trans (hb.mono (by omega))
  have s1 := R1.lt
  have lg := HS.lt
  have gX : X < g := by omega
  clear R0 b0 hb H0
  go_wp2_with fail
  refine (spec_l03Draw g _ HS).mono ?_
  rintro e w2 ⟨⟨a', n', c', L, G, lf, lu, rfl, hP, hPg, hok⟩, K2⟩
  have R2 := R1.keep K2 (by omega)
  have b2 := b1.trans (K2.below (by omega) (by omega))
  have q0 := R2.c0
  have q1 := R2.c1
  have q2 := R2.c2
  have k0 := R2.f0
  have k1 := R2.f1
  have k2 := R2.f2
  have HO := Lib.hid hok
  clear hok HS K2
  go_wp2_with fail
  refine bodyPost_ret (by simp [results, Tryz.results5, go_sem, *]; try rfl) rfl ?_
  refine ⟨⟨a', n', c', L, G, lf, lu, rfl, ?_, HO.out⟩, ?_⟩
  · repeat (refine PassAt.set ?_ (fun b o e => by have := hPg b o e; omega))
    exact hP
  · rw [hX]
    repeat (first | exact b2 | refine below_set ?_ (by omega))

/-- A block of four cells, none frozen. -/
structure Row4 (w : World) (g : Nat) (x y z u : Value) : Prop where
  c0 : w.cell? ⟨g, 0, none⟩ = some x
  c1 : w.cell? ⟨g, 1, none⟩ = some y
  c2 : w.cell? ⟨g, 2, none⟩ = some z
  c3 : w.cell? ⟨g, 3, none⟩ = some u
  f0 : w.frozen? ⟨g, 0, none⟩ = false
  f1 : w.frozen? ⟨g, 1, none⟩ = false
  f2 : w.frozen? ⟨g, 2, none⟩ = false
  f3 : w.frozen? ⟨g, 3, none⟩ = false
  lt : g < w.heap.size
section
variable {w w' : World} {g : Nat} {x y z u : Value}
theorem Row4.below (h : Row4 w g x y z u) (hb : Below w.heap.size w w') : Row4 w' g x y z u :=
  ⟨(hb.cell (p := ⟨g, 0, none⟩) h.lt).trans h.c0, (hb.cell (p := ⟨g, 1, none⟩) h.lt).trans h.c1, (hb.cell (p := ⟨g, 2, none⟩) h.lt).trans h.c2, (hb.cell (p := ⟨g, 3, none⟩) h.lt).trans h.c3,
   (hb.frozen (p := ⟨g, 0, none⟩) h.lt).trans h.f0, (hb.frozen (p := ⟨g, 1, none⟩) h.lt).trans h.f1, (hb.frozen (p := ⟨g, 2, none⟩) h.lt).trans h.f2, (hb.frozen (p := ⟨g, 3, none⟩) h.lt).trans h.f3, Nat.lt_of_lt_of_le h.lt hb.size⟩
theorem Row4.keep {s : Nat} (h : Row4 w g x y z u) (k : Keep s (s + 1) w w') (hb : g ≠ s) : Row4 w' g x y z u :=
  ⟨(k.cellk h.lt (by omega)).trans h.c0, (k.cellk h.lt (by omega)).trans h.c1, (k.cellk h.lt (by omega)).trans h.c2, (k.cellk h.lt (by omega)).trans h.c3, (k.frozenk h.lt (by omega)).trans h.f0, (k.frozenk h.lt (by omega)).trans h.f1, (k.frozenk h.lt (by omega)).trans h.f2, (k.frozenk h.lt (by omega)).trans h.f3, Nat.lt_of_lt_of_le h.lt k.size⟩
theorem Row4.made (w : World) (x y z u : Value) (t : TypeId) : Row4 (w.alloc (.cells #[x, y, z, u] t)) w.heap.size x y z u := by
  refine ⟨?_, ?_, ?_, ?_, ?_, ?_, ?_, ?_, by simp⟩
  all_goals go_simp
theorem Row4.other {b j : Nat} {v : Value} (h : Row4 w g x y z u) (hb : b ≠ g) : Row4 (w.setCell ⟨b, j, none⟩ v) g x y z u :=
  ⟨cell_far h.c0 (by omega), cell_far h.c1 (by omega), cell_far h.c2 (by omega), cell_far h.c3 (by omega), by simpa using h.f0, by simpa using h.f1, by simpa using h.f2, by simpa using h.f3, lt_set h.lt⟩
theorem Row4.set1 {v : Value} (h : Row4 w g x y z u) : Row4 (w.setCell ⟨g, 1, none⟩ v) g x v z u :=
  ⟨cell_off h.c0 (by decide), cell_same h.c1, cell_off h.c2 (by decide), cell_off h.c3 (by decide), by simpa using h.f0, by simpa using h.f1, by simpa using h.f2, by simpa using h.f3, lt_set h.lt⟩
theorem Row4.set3 {v : Value} (h : Row4 w g x y z u) : Row4 (w.setCell ⟨g, 3, none⟩ v) g x y z v :=
  ⟨cell_off h.c0 (by decide), cell_off h.c1 (by decide), cell_off h.c2 (by decide), cell_same h.c3, by simpa using h.f0, by simpa using h.f1, by simpa using h.f2, by simpa using h.f3, lt_set h.lt⟩
end

set_option maxHeartbeats 1000000 in
theorem spec_l09Draw (g : Nat) (w : World) (h : SrcAt w g 0) :
    Calls Tryz.prog 22 #[.pointer (some ⟨g, 0, none⟩)] w fun e w' => (∃ a r c y, e = .returned (.agg #[.int .i64 a, .int .i64 r, .int .i64 c, .int .i64 y]) ∧ profOk a r c y = true) ∧ Keep g (g + 1) w w' := by
  have hg := h.lt
  have H := Lib.hid h
  clear h
  go_enter Tryz.func22, Tryz.ntmps22
  have R0 := Row4.made w (.int .i64 0) (.int .i64 0) (.int .i64 0) (.int .i64 0) 29
  have H0 := H.out.below (Below.alloc (Below.refl _ _) (Nat.le_refl _) (Obj.cells #[.int .i64 0, .int .i64 0, .int .i64 0, .int .i64 0] 29))
  have K0 : Keep g (g + 1) w (w.alloc (Obj.cells #[.int .i64 0, .int .i64 0, .int .i64 0, .int .i64 0] 29)) := Keep.of_below (Below.alloc (Below.refl _ _) (Nat.le_refl _) _)
  go_wp2_with fail
  clear H
  generalize w.alloc (Obj.cells #[.int .i64 0, .int .i64 0, .int .i64 0, .int .i64 0] 29) = w0 at *
  generalize hX : w.heap.size = X at *
  have gX : g < X := by omega
  have s0 := R0.lt
  refine (spec_pick g 0 40 _ H0 (by omega) (by omega)).mono ?_
  rintro e w1 ⟨p, A1, rfl, p0, p1, a0, a1, H1, K1⟩
  have p1' := p1 (by omega)
  have R1 := R0.keep K1 (by omega)
  have K2 := K0.trans K1
  clear R0 H0 K0 K1 p1
  go_wp2_with fail
  refine (spec_pick g A1 6 _ H1 (by omega) (by omega)).mono ?_
  rintro e w2 ⟨q, A2, rfl, q0, q1, a2, a3, H2, K3⟩
  have q1' := q1 (by omega)
  have R2 := R1.keep K3 (by omega)
  have K4 := K2.trans K3
  clear R1 H1 K2 K3 q1
  obtain ⟨ac, hac⟩ : ∃ ac : Int, ac = 100 + 10 * p := ⟨_, rfl⟩
  obtain ⟨cr, hcr⟩ : ∃ cr : Int, cr = 300 + 100 * q := ⟨_, rfl⟩
  have b1 : 100 ≤ ac ∧ ac ≤ 500 := by omega
  have b2 : 300 ≤ cr ∧ cr ≤ 800 := by omega
  have e1 : 100 + 10 * p = ac := hac.symm
  have e2 : 300 + 100 * q = cr := hcr.symm
  clear hac hcr
  have Q3 := Row4.made w2 (.int .i64 ac) (.int .i64 0) (.int .i64 cr) (.int .i64 0) 29
  have bA : Below w2.heap.size w2 (w2.alloc (Obj.cells #[.int .i64 ac, .int .i64 0, .int .i64 cr, .int .i64 0] 29)) := Below.alloc (Below.refl _ _) (Nat.le_refl _) _
  have R3 := R2.below bA
  have H3 := H2.below bA
  have K5 : Keep g (g + 1) w (w2.alloc (Obj.cells #[.int .i64 ac, .int .i64 0, .int .i64 cr, .int .i64 0] 29)) := K4.alloc
  have l2 := R2.lt
  go_upto_region 2 with fail
  clear R2 H2 K4 bA e1 e2
  generalize w2.alloc (Obj.cells #[.int .i64 ac, .int .i64 0, .int .i64 cr, .int .i64 0] 29) = w3 at *
  generalize w2.heap.size = Y at *
  go_wp2_with fail
  refine (spec_pick g A2 80 _ H3 (by omega) (by omega)).mono ?_
  rintro e w4 ⟨t, A3, rfl, t0, t1, a4, a5, H4, K6⟩
  have t1' := t1 (by omega)
  have Q4 := Q3.keep K6 (by omega)
  have R4 := R3.keep K6 (by omega)
  have K7 := K5.trans K6
  clear Q3 R3 H3 K5 K6 t1
  obtain ⟨cz, hcz⟩ : ∃ cz : Int, cz = 2000 + 100 * t := ⟨_, rfl⟩
  have b3 : 2000 ≤ cz ∧ cz ≤ 9900 := by omega
  have e3 : 2000 + 100 * t = cz := hcz.symm
  clear hcz
  have c1 := Q4.c1
  have f1 := Q4.f1
  have Q5 := Q4.set1 (v := .int .i64 cz)
  have R5 := R4.other (b := Y) (j := 1) (v := .int .i64 cz) (by omega)
  have H5 := H4.setUp (b := Y) (j := 1) (u := .int .i64 cz) (by omega)
  have K8 : Keep g (g + 1) w (w4.setCell ⟨Y, 1, none⟩ (.int .i64 cz)) := K7.setFresh (B := 0) (by omega)
  clear R4 H4 K7 Q4
  go_upto_region 3 with fail
  clear c1 f1 e3
  generalize w4.setCell ⟨Y, 1, none⟩ (.int .i64 cz) = w5 at *
  go_wp2_with fail
  refine (spec_pick g A3 8 _ H5 (by omega) (by omega)).mono ?_
  rintro e w6 ⟨v, A4, rfl, v0, v1, a6, a7, H6, K9⟩
  have v1' := v1 (by omega)
  have Q6 := Q5.keep K9 (by omega)
  have R6 := R5.keep K9 (by omega)
  have K10 := K8.trans K9
  clear Q5 R5 H5 K8 K9 v1
  obtain ⟨wy, hwy⟩ : ∃ wy : Int, wy = 500 * v := ⟨_, rfl⟩
  have b4 : 0 ≤ wy ∧ wy ≤ 3500 := by omega
  have e4 : 500 * v = wy := hwy.symm
  clear hwy
  have c3 := Q6.c3
  have f3 := Q6.f3
  have Q7 := Q6.set3 (v := .int .i64 wy)
  have R7 := R6.other (b := Y) (j := 3) (v := .int .i64 wy) (by omega)
  have K11 : Keep g (g + 1) w (w6.setCell ⟨Y, 3, none⟩ (.int .i64 wy)) := K10.setFresh (B := 0) (by omega)
  clear R6 H6 K10 Q6
  go_upto_region 4 with fail
  clear c3 f3 e4
  generalize w6.setCell ⟨Y, 3, none⟩ (.int .i64 wy) = w7 at *
  have d0 := Q7.c0
  have d1 := Q7.c1
  have d2 := Q7.c2
  have d3 := Q7.c3
  have r0 := R7.c0
  have r1 := R7.c1
  have r2 := R7.c2
  have r3 := R7.c3
  have k0 := R7.f0
  have k1 := R7.f1
  have k2 := R7.f2
  have k3 := R7.f3
  go_wp2_with fail
  refine bodyPost_ret (by simp [results, Tryz.results22, go_sem, *]; try rfl) rfl ?_
  refine ⟨⟨ac, cz, cr, wy, rfl, ?_⟩, ?_⟩
  · unfold profOk
    rw [inB_true.2 (by omega), inB_true.2 (by omega), inB_true.2 (by omega), inB_true.2 (by omega)]; rfl
  · repeat (first | exact K11 | refine Keep.setFresh (B := 0) ?_ (by omega))

theorem spec_R8Profile (a : Option Addr) (n c : Nat) (w : World) (h : BytesAt w a n) (hn : n ≤ 1048576) :
    Calls Tryz.prog 6 #[.slice a n c] w fun e w' => (∃ a r c y, e = .returned (.agg #[.int .i64 a, .int .i64 r, .int .i64 c, .int .i64 y]) ∧ profOk a r c y = true) ∧ Below w.heap.size w w' := by
  have H := Lib.hid h
  clear h
  go_enter Tryz.func6, Tryz.ntmps6
  have R0 := Row4.made w (.int .i64 0) (.int .i64 0) (.int .i64 0) (.int .i64 0) 29
  have H0 := H.out.below (Below.alloc (Below.refl _ _) (Nat.le_refl _) (Obj.cells #[.int .i64 0, .int .i64 0, .int .i64 0, .int .i64 0] 29))
  have b0 : Below w.heap.size w (w.alloc (Obj.cells #[.int .i64 0, .int .i64 0, .int .i64 0, .int .i64 0] 29)) := Below.alloc (Below.refl _ _) (Nat.le_refl _) _
  go_wp2_with fail
  clear H
  generalize w.alloc (Obj.cells #[.int .i64 0, .int .i64 0, .int .i64 0, .int .i64 0] 29) = w0 at *
  generalize hX : w.heap.size = X at *
  have s0 := R0.lt
  refine (spec_l00From a n c _ H0 hn).mono ?_
  rintro e w1 ⟨g, rfl, hg, HS, hb⟩
  have R1 := R0.below hb
  have b1 := b0.trans (hb.mono (by omega))
  have s1 := R1.lt
  have lg := HS.lt
  have gX : X < g := by omega
  clear R0 b0 hb H0
  go_wp2_with fail
  refine (spec_l09Draw g _ HS).mono ?_
  rintro e w2 ⟨⟨pa, pr, pc, py, rfl, hok⟩, K2⟩
  have R2 := R1.keep K2 (by omega)
  have b2 := b1.trans (K2.below (by omega) (by omega))
  have r0 := R2.c0
  have r1 := R2.c1
  have r2 := R2.c2
  have r3 := R2.c3
  have k0 := R2.f0
  have k1 := R2.f1
  have k2 := R2.f2
  have k3 := R2.f3
  have HO := Lib.hid hok
  clear hok HS K2
  go_wp2_with fail
  refine bodyPost_ret (by simp [results, Tryz.results6, go_sem, *]; try rfl) rfl ?_
  refine ⟨⟨pa, pr, pc, py, rfl, HO.out⟩, ?_⟩
  rw [hX]
  repeat (first | exact b2 | refine below_set ?_ (by omega))

end Go.Proofs.YteccpafoojkmjaaGreatDoor
