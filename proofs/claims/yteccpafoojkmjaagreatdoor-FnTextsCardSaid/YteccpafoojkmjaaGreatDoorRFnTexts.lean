/-
  The statement 'FnTextsCardSaid': for every input the law returns true, and each argument reads afterwards as before; the listed variables of Go's library are tied to the program's text. No other condition.
-/
import Derived.Test.YteccpafoojkmjaaGreatDoorRows
import Derived.Test.YteccpafoojkmjaaGreatDoorTie
import Derived.Test.YteccpafoojkmjaaGreatDoorCards
import Derived.Handy
import Derived.ProofKit
import Derived.OpenShut
import Derived.ShutString
import Derived.ChangeOld
import Derived.Below
import Derived.Lib.SmallJoins
import Derived.LaidMore
import Derived.Shelf.Vars
import Derived.Stop.LaidErr
import Derived.Stop.Joined
import Derived.SevenTiedAt
import Derived.Lay
import Derived.Deep.Fields
import Derived.Test.YteccpafoojkmjaaGreatDoorSrc
import Derived.DataShut
import Derived.WalkKit
import Derived.Test.YteccpafoojkmjaaGreatDoorPml
import Derived.Test.YteccpafoojkmjaaGreatDoorRl
import Derived.Test.YteccpafoojkmjaaGreatDoorDk
import Derived.Test.YteccpafoojkmjaaGreatDoorKD3
import Derived.Test.YteccpafoojkmjaaGreatDoorNk
import Derived.Test.YteccpafoojkmjaaGreatDoorBr
import Derived.Test.YteccpafoojkmjaaGreatDoorKM
import Derived.Test.YteccpafoojkmjaaGreatDoorKN
import Derived.Test.YteccpafoojkmjaaGreatDoorM1
import Derived.Deep.DeepCutAuto
import Derived.IntWalk
import Derived.Test.YteccpafoojkmjaaGreatDoorRd
import Derived.Test.YteccpafoojkmjaaGreatDoorRe
import Derived.Test.YteccpafoojkmjaaGreatDoorRs
import Derived.Test.YteccpafoojkmjaaGreatDoorKC
/-
  Arguments opened: a struct of one-cell fields by value, of any number of fields.
-/
namespace Go.Proofs.YteccpafoojkmjaaGreatDoor
open Go.ChangeShapes Go.WideShapes Go.Deep

theorem list1 {α : Type} {l : List α} (h : l.length = 1) : ∃ a, l = [a] := by match l, h with | [a], _ => exact ⟨a, rfl⟩
theorem list2 {α : Type} {l : List α} (h : l.length = 2) : ∃ a b, l = [a, b] := by match l, h with | [a, b], _ => exact ⟨a, b, rfl⟩
theorem list3 {α : Type} {l : List α} (h : l.length = 3) : ∃ a b c, l = [a, b, c] := by match l, h with | [a, b, c], _ => exact ⟨a, b, c, rfl⟩
theorem list4 {α : Type} {l : List α} (h : l.length = 4) : ∃ a b c d, l = [a, b, c, d] := by match l, h with | [a, b, c, d], _ => exact ⟨a, b, c, d, rfl⟩
theorem list5 {α : Type} {l : List α} (h : l.length = 5) : ∃ a b c d e, l = [a, b, c, d, e] := by match l, h with | [a, b, c, d, e], _ => exact ⟨a, b, c, d, e, rfl⟩

section
variable {H : Type} {enc : TypeId × Value → H} {P : Program} {w : World} {base : Nat} {spare : Nat → Bool} {held : Bool}
theorem agg_open {r : Reach} {b0 : Nat} {t : TypeId} {fs : Array Field} {v : Value} {d : DataW H} {p : List MemPlace} (hs : P.underlying t = some (.struct fs)) (hone : oneCellFields P fs = true) (hC : P.cellsOf t = fs.size)
    (hv : Value.okWide P w r b0 t v) (h : DataW.Trod enc P w base spare held t v d p) :
    ∃ (vs : List Value) (n : Nat), v = .agg vs.toArray ∧ vs.length = fs.size ∧ ∀ (j : Nat) (f : Field) (u : Value), fs[j]? = some f → vs[j]? = some u → ∃ y, DataW.trod enc P w base spare held n f.type [u] = some y := by
  obtain ⟨⟨cs⟩, rfl, hsz⟩ := okWide_struct hs hv
  have hl : cs.length = fs.size := hsz.trans hC
  obtain ⟨fuel, hf⟩ := h
  obtain ⟨ys, n, _, _, _, hyl, hg⟩ := DataW.trod_struct hs hf
  refine ⟨cs, n, rfl, hl, fun j f u hj hu => ?_⟩
  obtain ⟨ho, hk⟩ := hone_of hone j f hj
  have hjl : j < fs.size := (Array.getElem?_eq_some_iff.1 hj).1
  have h1 := hg j f hj
  rw [ho, hk] at h1
  have hd : (cs.drop j).take 1 = [u] := by
    rw [List.drop_eq_getElem_cons (by omega)]
    obtain ⟨_, e⟩ := List.getElem?_eq_some_iff.1 hu
    simp [e]
  have hys : ys[j]? = some (ys[j]'(by omega)) := List.getElem?_eq_getElem (by omega)
  refine ⟨ys[j]'(by omega), ?_⟩
  rw [← hys, ← h1]
  simp only [Value.cells]
  exact congrArg _ hd.symm
end
end Go.Proofs.YteccpafoojkmjaaGreatDoor
/-
  Arguments opened: slices of bytes.
-/
namespace Go.Proofs.YteccpafoojkmjaaGreatDoor
open Go.ChangeShapes Go.WideShapes Go.Deep
set_option linter.unusedVariables false

section
variable {H : Type} {enc : TypeId × Value → H} {P : Program} {w : World} {base : Nat} {held : Bool}
theorem bytes_open {t e : TypeId} {a : Option Addr} {len cap : Nat} {d : DataW H} {p : List MemPlace} (ht : P.underlying t = some (.slice e)) (he : P.underlying e = some (.int .u8)) (hc : P.cellsOf e = 1)
    (h : DataW.Trod enc P w base (fun _ => true) held t (.slice a len cap) d p) : BytesAt w a len := by
  obtain ⟨fuel, hf⟩ := h
  rcases open_ints ht he hc hf with ⟨hcs, _⟩ | ⟨x, l, c, zs, hcs, _, hl, hm, hz, _, hcell, hwz⟩
  · simp [Value.cells] at hcs
    obtain ⟨rfl, rfl, rfl⟩ := hcs
    exact fun h => absurd h (by omega)
  · simp [Value.cells] at hcs
    obtain ⟨rfl, rfl, rfl⟩ := hcs
    simp only [if_true] at hz
    intro hn
    obtain ⟨b, off, spot⟩ := x
    have h0 := hcell 0 (by omega)
    have hs : spot = none := by simpa [Addr.add] using World.cell?_spot h0
    subst hs
    refine ⟨b, off, rfl, ?_, fun j hj => ?_⟩
    · have := World.block_lt_of_cell? w _ h0
      simpa [Addr.add] using this
    · have h1 := hcell j (by omega)
      have e : (⟨b, off, none⟩ : Addr).add j = ⟨b, off + j, none⟩ := by
        unfold Addr.add
        by_cases h : j = 0
        · subst h; simp
        · simp [h]
      rw [e] at h1
      have hj' : j < zs.length := by omega
      have hmem : zs.getD j 0 ∈ zs := by
        rw [List.getD_eq_getElem?_getD, List.getElem?_eq_getElem hj']
        exact List.getElem_mem hj'
      have hw := (Lit.wf_int_iff .u8 _).1 (hwz _ hmem)
      have m0 : IntKind.u8.min = 0 := rfl
      have m1 : IntKind.u8.max = 255 := rfl
      exact ⟨zs.getD j 0, by omega, by omega, h1⟩
end
end Go.Proofs.YteccpafoojkmjaaGreatDoor
/-
  Cells that a walk holds over calls. No program in sight.
-/
namespace Go.Proofs.YteccpafoojkmjaaGreatDoor
open Go.RowKit
set_option linter.unusedVariables false
set_option linter.unusedSimpArgs false

/-- Cells that a walk holds. -/
def Held (W : World) (L : List (Nat × Nat × Value)) : Prop := ∀ x, x ∈ L → x.1 < W.heap.size ∧ W.cell? ⟨x.1, x.2.1, none⟩ = some x.2.2
theorem Held.below {W W' : World} {L : List (Nat × Nat × Value)} (h : Held W L) (k : Below W.heap.size W W') : Held W' L := fun x hx =>
  ⟨Nat.lt_of_lt_of_le (h x hx).1 k.size, (k.cell (p := ⟨x.1, x.2.1, none⟩) (h x hx).1).trans (h x hx).2⟩
theorem Held.get {W : World} {L : List (Nat × Nat × Value)} (h : Held W L) (i : Nat) (x : Nat × Nat × Value) (hx : L[i]? = some x) : W.cell? ⟨x.1, x.2.1, none⟩ = some x.2.2 :=
  (h x (List.mem_of_getElem? hx)).2
theorem Held.lt {W : World} {L : List (Nat × Nat × Value)} (h : Held W L) (i : Nat) (x : Nat × Nat × Value) (hx : L[i]? = some x) : x.1 < W.heap.size :=
  (h x (List.mem_of_getElem? hx)).1
theorem Held.nil (W : World) : Held W [] := fun x hx => by cases hx
theorem Held.cons {W : World} {L : List (Nat × Nat × Value)} {b o : Nat} {v : Value} (h : Held W L) (hb : b < W.heap.size) (hc : W.cell? ⟨b, o, none⟩ = some v) : Held W ((b, o, v) :: L) := fun x hx => by
  rcases List.mem_cons.1 hx with rfl | hx
  · exact ⟨hb, hc⟩
  · exact h x hx
end Go.Proofs.YteccpafoojkmjaaGreatDoor
/-
  Plain: a track's text, its words, and what is read back. No program in sight.
-/
namespace Go.Proofs.YteccpafoojkmjaaGreatDoor
open Go.RowKit
open Go.Lib (itoa decDigits)
set_option linter.unusedVariables false
set_option linter.unusedSimpArgs false

theorem split_snoc {s x : ByteArray} {c : UInt8} (hx : c ∉ x.data.toList) : splitL (s ++ ⟨#[c]⟩ ++ x) (c.toNat : Int) = splitL s (c.toNat : Int) ++ [x] := by
  apply map_data_inj
  rw [split_list, List.map_append, split_list, app_list, app_list]
  unfold splS
  rw [List.foldl_append, List.foldl_append]
  have e : ∀ p : List (List UInt8) × List UInt8, List.foldl (stepS c) p (⟨#[c]⟩ : ByteArray).data.toList = (p.1 ++ [p.2], []) := fun p => by
    show stepS c _ c = _
    unfold stepS; rw [if_pos rfl]
  rw [e, splS_free hx]
  simp
def secW (L G : Nat → Int) (j : Nat) : ByteArray := dtx (L j) ++ ⟨#[64]⟩ ++ dtx (G j)
def headW (lf lu : Int) : ByteArray := ⟨#[108, 111, 111, 112, 32]⟩ ++ dtx lf ++ ⟨#[44]⟩ ++ dtx lu
def accT (lf lu : Int) (L G : Nat → Int) : Nat → ByteArray
  | 0 => headW lf lu
  | k + 1 => accT lf lu L G k ++ ⟨#[32]⟩ ++ secW L G k
def wordsT (lf lu : Int) (L G : Nat → Int) (k : Nat) : List ByteArray := headW lf lu :: (List.range k).map (secW L G)
theorem wordsT_len (lf lu : Int) (L G : Nat → Int) (k : Nat) : (wordsT lf lu L G k).length = k + 1 := by simp [wordsT]
theorem wordsT_succ (lf lu : Int) (L G : Nat → Int) (k : Nat) : wordsT lf lu L G (k + 1) = wordsT lf lu L G k ++ [secW L G k] := by simp [wordsT, List.range_succ]
theorem wordsT_join (lf lu : Int) (L G : Nat → Int) : ∀ k, Go.Lib.join ((wordsT lf lu L G k).map (·.data.toList)) [32] = (accT lf lu L G k).data.toList
  | 0 => by simp [Go.Lib.join, wordsT, accT, List.intercalate]
  | k + 1 => by
    have ih := wordsT_join lf lu L G k
    unfold Go.Lib.join at ih ⊢
    rw [wordsT_succ, List.map_append, List.map_cons, List.map_nil, cat_snoc _ _ (by simp [wordsT]), ih]
    show _ = (accT lf lu L G k ++ ⟨#[32]⟩ ++ secW L G k).data.toList
    rw [app_list, app_list]
theorem secW_free (L G : Nat → Int) (j : Nat) : (32 : UInt8) ∉ (secW L G j).data.toList := by
  unfold secW
  rw [app_list, app_list]
  have h1 := dtx_free (L j) (c := 32) (by decide)
  have h2 := dtx_free (G j) (c := 32) (by decide)
  intro h
  rcases List.mem_append.1 h with h | h
  · rcases List.mem_append.1 h with h | h
    · exact h1 h
    · revert h; decide
  · exact h2 h
theorem split_accT (lf lu : Int) (L G : Nat → Int) : ∀ k, splitL (accT lf lu L G k) 32 = [⟨#[108, 111, 111, 112]⟩, dtx lf ++ ⟨#[44]⟩ ++ dtx lu] ++ (List.range k).map (secW L G)
  | 0 => by
    have h1 := dtx_free lf (c := 32) (by decide)
    have h2 := dtx_free lu (c := 32) (by decide)
    have e : accT lf lu L G 0 = ⟨#[108, 111, 111, 112]⟩ ++ ⟨#[32]⟩ ++ (dtx lf ++ ⟨#[44]⟩ ++ dtx lu) := by
      apply data_inj
      show (headW lf lu).data.toList = _
      unfold headW
      simp only [app_list]
      simp
    rw [e]
    refine split_two (c := 32) (by decide) ?_
    rw [app_list, app_list]
    intro h
    rcases List.mem_append.1 h with h | h
    · rcases List.mem_append.1 h with h | h
      · exact h1 h
      · revert h; decide
    · exact h2 h
  | k + 1 => by
    have e := split_snoc (s := accT lf lu L G k) (c := 32) (secW_free L G k)
    rw [show (((32 : UInt8).toNat : Nat) : Int) = 32 from rfl] at e
    show splitL (accT lf lu L G k ++ ⟨#[32]⟩ ++ secW L G k) 32 = _
    rw [e, split_accT lf lu L G k, List.range_succ, List.map_append, List.append_assoc]
    rfl
theorem secW_cut (L G : Nat → Int) (j : Nat) : cutA (secW L G j) 64 = dtx (L j) ∧ cutB (secW L G j) 64 = dtx (G j) := cut_two (dtx_free _ (by decide))
theorem headW_cut (lf lu : Int) : cutA (dtx lf ++ ⟨#[44]⟩ ++ dtx lu) 44 = dtx lf ∧ cutB (dtx lf ++ ⟨#[44]⟩ ++ dtx lu) 44 = dtx lu := cut_two (dtx_free _ (by decide))
theorem secW_size {L G : Nat → Int} {j : Nat} (h1 : 0 ≤ L j ∧ L j ≤ 3000000) (h2 : 0 ≤ G j ∧ G j ≤ 3000000) : (secW L G j).size ≤ 43 := by
  have a := dtx_size (n := L j) (by omega) (by omega)
  have b := dtx_size (n := G j) (by omega) (by omega)
  unfold secW
  simp only [ByteArray.size_append]
  show (dtx (L j)).size + 1 + (dtx (G j)).size ≤ _
  omega
theorem accT_size {lf lu : Int} {L G : Nat → Int} (h1 : 0 ≤ lf ∧ lf ≤ 3000000) (h2 : 0 ≤ lu ∧ lu ≤ 3000000) : ∀ k, (∀ j, j < k → (0 ≤ L j ∧ L j ≤ 3000000) ∧ 0 ≤ G j ∧ G j ≤ 3000000) → (accT lf lu L G k).size ≤ 48 + 44 * k
  | 0, _ => by
    have a := dtx_size (n := lf) (by omega) (by omega)
    have b := dtx_size (n := lu) (by omega) (by omega)
    unfold accT headW
    simp only [ByteArray.size_append]
    show 5 + (dtx lf).size + 1 + (dtx lu).size ≤ _
    omega
  | k + 1, h => by
    have ih := accT_size (L := L) (G := G) h1 h2 k (fun j hj => h j (by omega))
    have := secW_size (L := L) (G := G) (j := k) (h k (by omega)).1 (h k (by omega)).2
    unfold accT
    simp only [ByteArray.size_append]
    show (accT lf lu L G k).size + 1 + (secW L G k).size ≤ _
    omega
end Go.Proofs.YteccpafoojkmjaaGreatDoor
/-
  A profile's text and its way back (the given program's side).
-/
namespace Go.Proofs.YteccpafoojkmjaaGreatDoor
open Go.RowKit
open Go.Lib (itoa decDigits)
set_option linter.unusedVariables false
set_option linter.unusedSimpArgs false

theorem listTx_four (Z : Nat → Int) : listTx Z 4 = dtx (Z 0) ++ ⟨#[44]⟩ ++ dtx (Z 1) ++ ⟨#[44]⟩ ++ dtx (Z 2) ++ ⟨#[44]⟩ ++ dtx (Z 3) := by
  apply data_inj
  simp only [app_list]
  unfold listTx listL
  rw [if_neg (by decide)]
  simp [accL, dtx]
theorem listTx_cong4 {Z Y : Nat → Int} (h0 : Z 0 = Y 0) (h1 : Z 1 = Y 1) (h2 : Z 2 = Y 2) (h3 : Z 3 = Y 3) : listTx Z 4 = listTx Y 4 := by rw [listTx_four, listTx_four, h0, h1, h2, h3]
theorem split_four {p q r t : ByteArray} {c : UInt8} (hp : c ∉ p.data.toList) (hq : c ∉ q.data.toList) (hr : c ∉ r.data.toList) (ht : c ∉ t.data.toList) : splitL (p ++ ⟨#[c]⟩ ++ q ++ ⟨#[c]⟩ ++ r ++ ⟨#[c]⟩ ++ t) (c.toNat : Int) = [p, q, r, t] := by
  apply map_data_inj
  rw [split_list, app_list, app_list, app_list, app_list, app_list, app_list]
  unfold splS
  rw [List.foldl_append, List.foldl_append, List.foldl_append, List.foldl_append, List.foldl_append, List.foldl_append, splS_free hp]
  have e : ∀ L x, List.foldl (stepS c) (L, x) (⟨#[c]⟩ : ByteArray).data.toList = (L ++ [x], []) := fun L x => by
    show stepS c _ c = _
    unfold stepS; rw [if_pos rfl]
  rw [e, splS_free hq, e, splS_free hr, e, splS_free ht]
  simp
theorem split_text4 (Z : Nat → Int) : splitL (listTx Z 4) 44 = [dtx (Z 0), dtx (Z 1), dtx (Z 2), dtx (Z 3)] := by
  rw [listTx_four]
  exact split_four (c := 44) (free44 _) (free44 _) (free44 _) (free44 _)
/-- A text of four numbers is read as them. -/
theorem pc_text4 {s : ByteArray} {Z : Nat → Int} (hs : listTx Z 4 = s) (hb : ∀ j, j < 4 → -1000000000000 ≤ Z j ∧ Z j ≤ 1000000000000) :
    pcN s = 4 ∧ (∀ j, j < 4 → pcV s j = Z j) ∧ ltx (pcV s) 4 = s := by
  have hsp : splitL s 44 = [dtx (Z 0), dtx (Z 1), dtx (Z 2), dtx (Z 3)] := by rw [← hs]; exact split_text4 Z
  have hj : ∀ j, j < 4 → pcV s j = Z j := fun j hj => by
    have e : pcS s j = dtx (Z j) := by
      unfold pcS
      rw [hsp]
      rcases (show j = 0 ∨ j = 1 ∨ j = 2 ∨ j = 3 by omega) with rfl | rfl | rfl | rfl <;> rfl
    have hz := hb j hj
    have := num_back (z := Z j) (by omega) (by omega)
    unfold pcV
    rw [e]
    exact this.2
  have ho : outB (pcV s) 4 = false := any_false.2 (fun j h => by
    rw [hj j h, inB_true.2 (hb j h)]; rfl)
  refine ⟨by unfold pcN; rw [hsp]; rfl, hj, ?_⟩
  rw [ltx_in (by decide) ho, listTx_cong4 (hj 0 (by decide)) (hj 1 (by decide)) (hj 2 (by decide)) (hj 3 (by decide)), hs]
def pz (a r c y : Int) : Nat → Int | 0 => a | 1 => r | 2 => c | _ => y
def profText (a r c y : Int) : ByteArray := listTx (pz a r c y) 4
theorem pz_bd {a r c y : Int} (h : profOk a r c y = true) : ∀ j, j < 4 → 0 ≤ pz a r c y j ∧ pz a r c y j ≤ 3000000 := by
  unfold profOk at h
  rw [Bool.and_eq_true, Bool.and_eq_true, Bool.and_eq_true, inB_true, inB_true, inB_true, inB_true] at h
  intro j hj
  rcases j with _ | _ | _ | j
  · show _ ≤ a ∧ a ≤ _; omega
  · show _ ≤ r ∧ r ≤ _; omega
  · show _ ≤ c ∧ c ≤ _; omega
  · show _ ≤ y ∧ y ≤ _; omega
theorem pz_any {a r c y : Int} (h : profOk a r c y = true) : any (fun j => !inB (pz a r c y j) (-1000000000000) 1000000000000) 4 = false := by
  have hb := pz_bd h
  rw [any_false]
  intro j hj
  have := hb j hj
  have hi : inB (pz a r c y j) (-1000000000000) 1000000000000 = true := by rw [inB_true]; omega
  simp only [hi]; rfl
theorem pz_at {w : World} {g : Nat} {a r c y : Int} (hg : g < w.heap.size) (c0 : w.cell? ⟨g, 0, none⟩ = some (.int .i64 a)) (c1 : w.cell? ⟨g, 1, none⟩ = some (.int .i64 r)) (c2 : w.cell? ⟨g, 2, none⟩ = some (.int .i64 c)) (c3 : w.cell? ⟨g, 3, none⟩ = some (.int .i64 y)) : IntsAt w (some ⟨g, 0, none⟩) 4 (pz a r c y) := by
  intro _
  refine ⟨g, 0, rfl, hg, fun j hj => ?_⟩
  rcases j with _ | _ | _ | _ | j
  · exact c0
  · exact c1
  · exact c2
  · exact c3
  · omega
theorem profText_size {a r c y : Int} (h : profOk a r c y = true) : (profText a r c y).size ≤ 1048576 := by
  have h1 := accL_len (Z := pz a r c y) (n := 4) (fun j hj => by have := pz_bd h j hj; omega) 4 (Nat.le_refl _)
  have e : (profText a r c y).size = (accL (pz a r c y) 4).length := by unfold profText listTx listL; rw [if_neg (by decide)]; rw [← len_data]
  omega

set_option maxHeartbeats 1000000 in
theorem impl_ProfileText_ok (a r c y : Int) (w : World) (h : profOk a r c y = true) (hT : PowAt w) : Calls Tryz.prog 12 #[.agg #[.int .i64 a, .int .i64 r, .int .i64 c, .int .i64 y]] w fun e w' => e = .returned (.string (profText a r c y)) ∧ Below w.heap.size w w' := by
  have kb := fun W => impl_ValidProfile a r c y W
  rw [h] at kb
  have kl := fun A C W hz hT => impl_ListText A 4 C (pz a r c y) W hz (by omega) (by omega) (fun j hj => by have := pz_bd h j hj; omega) (pz_any h) hT
  unfold profText
  generalize listTx (pz a r c y) 4 = R at *
  have hz3 := fun (W : World) (g : Nat) hg c0 c1 c2 c3 => @pz_at W g a r c y hg c0 c1 c2 c3
  generalize pz a r c y = Z at *
  go_enter Tryz.func12, Tryz.ntmps12
  go_wp2_with (first | (go_at_call 17; (with_reducible refine (kb _).mono ?_); rintro e w' ⟨rfl, hb⟩; obtain ⟨hc, hf⟩ := bcell hb; have hz : w.heap.size < w'.heap.size := (by have := hb.size; (try simp at this); omega); have hB : Below w.heap.size w w' := Below.trans (by go_grown) (hb.mono (by go_size))) | (go_at_call 32; (with_reducible refine (kl _ _ _ (hz3 _ _ (by simp) (by go_cell) (by go_cell) (by go_cell) (by go_cell)) ((hT.below hB).below (by go_grown))).mono ?_); rintro e w8 ⟨rfl, hb8⟩; have hB8 : Below w.heap.size w w8 := Below.trans (by go_grown) (hb8.mono (by go_size))))
  go_returns
  exact ⟨rfl, hB8⟩

set_option maxHeartbeats 2000000 in
theorem impl_ReadProfile_ok (s : ByteArray) (a r c y : Int) (w : World) (hp : profOk a r c y = true) (hx : profText a r c y = s) (hT : Tabs w) (hM : MaxAt w) :
    Calls Tryz.prog 11 #[.string s] w fun e w' => e = .returned (.tuple #[.agg #[.int .i64 a, .int .i64 r, .int .i64 c, .int .i64 y], .bool true]) ∧ Below w.heap.size w w' := by
  have hs : s.size ≤ 1048576 := by rw [← hx]; exact profText_size hp
  have kr := fun W h1 h2 => impl_readNumbers s 4 W hs h1 h2
  have kv := fun W => impl_ValidProfile a r c y W
  rw [hp] at kv
  obtain ⟨t1, t2, t3⟩ := pc_text4 (s := s) (Z := pz a r c y) hx (fun j hj => by have := pz_bd hp j hj; omega)
  have y0 : pcV s 0 = a := t2 0 (by decide)
  have y1 : pcV s 1 = r := t2 1 (by decide)
  have y2 : pcV s 2 = c := t2 2 (by decide)
  have y3 : pcV s 3 = y := t2 3 (by decide)
  have HT := Lib.hid t3
  have H45 := Lib.hid (show s ≠ ⟨#[45]⟩ by intro h; subst h; exact absurd t1 (by decide))
  clear t2 t3 hx hp
  go_enter Tryz.func11, Tryz.ntmps11
  have bA : Below w.heap.size w (w.alloc (Obj.cells #[.int .i64 0, .int .i64 0, .int .i64 0, .int .i64 0] 29)) := Below.alloc (Below.refl _ _) (Nat.le_refl _) _
  have R0 := Row4.made w (.int .i64 0) (.int .i64 0) (.int .i64 0) (.int .i64 0) 29
  go_wp2_with fail
  generalize w.alloc (Obj.cells #[.int .i64 0, .int .i64 0, .int .i64 0, .int .i64 0] 29) = w0 at *
  generalize hX : w.heap.size = X at *
  refine (kr _ (by rw [← hX] at bA; exact hT.below bA) (by rw [← hX] at bA; exact hM.below bA)).mono ?_
  rintro e w1 ⟨⟨A, n, C, Z, rfl, hI, hd⟩, hb⟩
  have R1 := R0.below hb
  have hB := bA.trans (hb.mono (by have := R0.lt; omega))
  have lX := R1.lt
  clear R0 bA hb kr hT hM
  obtain ⟨rfl, rfl⟩ : n = 4 ∧ Z = pcV s := by
    rcases hd with ⟨h1, h2, h3⟩ | ⟨h1, h2⟩
    · exact ⟨by omega, h2⟩
    · exfalso
      rcases h2 with h2 | h2
      · exact H45.out h2
      · rw [t1] at h2; exact h2 HT.out
  clear hd HT H45 t1
  obtain ⟨b, o, rfl, hbb, hc⟩ := hI (by decide)
  have z0 := hc 0 (by decide)
  have z1 := hc 1 (by decide)
  have z2 := hc 2 (by decide)
  have z3 := hc 3 (by decide)
  rw [y0] at z0
  rw [y1] at z1
  rw [y2] at z2
  rw [y3] at z3
  have z0' : w1.cell? ⟨b, o, none⟩ = some (.int .i64 a) := z0
  have lX0 : X ≤ w1.heap.size := Nat.le_of_lt lX
  clear hc hI y0 y1 y2 y3
  go_upto_region 4 with fail
  go_region
  have bA : Below w1.heap.size w1 ((w1.alloc (Obj.cells #[.int .i64 a, .int .i64 r, .int .i64 c, .int .i64 y] 29)).drew) := Below.drew (Below.alloc (Below.refl _ _) (Nat.le_refl _) _)
  have RV : Row4 ((w1.alloc (Obj.cells #[.int .i64 a, .int .i64 r, .int .i64 c, .int .i64 y] 29)).drew) w1.heap.size (.int .i64 a) (.int .i64 r) (.int .i64 c) (.int .i64 y) := (Row4.made w1 (.int .i64 a) (.int .i64 r) (.int .i64 c) (.int .i64 y) 29).below (Below.drew (Below.refl _ _))
  have R2 := R1.below bA
  have hB2 := hB.trans (bA.mono lX0)
  go_upto_region 5 with fail
  clear z0 z1 z2 z3 z0' R1 hB bA
  generalize (w1.alloc (Obj.cells #[.int .i64 a, .int .i64 r, .int .i64 c, .int .i64 y] 29)).drew = w2 at *
  generalize w1.heap.size = Y at *
  clear w1
  have d0 := RV.c0
  have d1 := RV.c1
  have d2 := RV.c2
  have d3 := RV.c3
  go_wp2_with fail
  refine (kv _).mono ?_
  rintro e w3 ⟨rfl, hb3⟩
  have RV3 := RV.below hb3
  have R3 := R2.below hb3
  have hB3 := hB2.trans (hb3.mono (by have := R2.lt; omega))
  clear RV R2 hB2 hb3 d0 d1 d2 d3 kv
  have d0 := RV3.c0
  have d1 := RV3.c1
  have d2 := RV3.c2
  have d3 := RV3.c3
  have f0 := R3.f0
  have f1 := R3.f1
  have f2 := R3.f2
  have f3 := R3.f3
  have c0 := R3.c0
  have c1 := R3.c1
  have c2 := R3.c2
  have c3 := R3.c3
  have hne : Y ≠ X := by omega
  go_wp2_with fail
  refine bodyPost_ret (by simp [results, Tryz.results11, go_sem, *]; try rfl) rfl ?_
  exact ⟨rfl, by rw [hX]; repeat (first | exact hB3 | refine below_set ?_ (by omega))⟩

end Go.Proofs.YteccpafoojkmjaaGreatDoor
/-
  A track's text (the given program's side).
-/
namespace Go.Proofs.YteccpafoojkmjaaGreatDoor
open Go.RowKit
open Go.Lib (itoa decDigits)
set_option linter.unusedVariables false
set_option linter.unusedSimpArgs false

theorem StrsOf.made {B : Nat} {w : World} {x : ByteArray} (h : B ≤ w.heap.size) : StrsOf B (w.alloc (.cells #[.string x] 9)) (.slice (some ⟨w.heap.size, 0, none⟩) 1 1) [x] :=
  ⟨by simp, .inr ⟨w.heap.size, 1, #[.string x], rfl, h, heap_alloc_new w _, Nat.le_refl _, by decide, rfl, by simp⟩⟩
theorem head_adds (P : Program) {lf lu : Int} (h1 : 0 ≤ lf ∧ lf ≤ 3000000) (h2 : 0 ≤ lu ∧ lu ≤ 3000000) :
    (∀ w, (Op.stringOp .add ⟨#[108, 111, 111, 112, 32]⟩ (dtx lf)).run P w = .ok (.string (⟨#[108, 111, 111, 112, 32]⟩ ++ dtx lf)) w) ∧
    (∀ w, (Op.stringOp .add (⟨#[108, 111, 111, 112, 32]⟩ ++ dtx lf) ⟨#[44]⟩).run P w = .ok (.string (⟨#[108, 111, 111, 112, 32]⟩ ++ dtx lf ++ ⟨#[44]⟩)) w) ∧
    (∀ w, (Op.stringOp .add (⟨#[108, 111, 111, 112, 32]⟩ ++ dtx lf ++ ⟨#[44]⟩) (dtx lu)).run P w = .ok (.string (headW lf lu)) w) := by
  have a := dtx_size (n := lf) (by omega) (by omega)
  have b := dtx_size (n := lu) (by omega) (by omega)
  have c : (⟨#[108, 111, 111, 112, 32]⟩ : ByteArray).size = 5 := rfl
  have d : (⟨#[44]⟩ : ByteArray).size = 1 := rfl
  refine ⟨str_add (by omega), str_add ?_, str_add ?_⟩
  all_goals simp only [ByteArray.size_append]; omega
theorem sec_adds (P : Program) {x y : Int} (h1 : 0 ≤ x ∧ x ≤ 3000000) (h2 : 0 ≤ y ∧ y ≤ 3000000) :
    (∀ w, (Op.stringOp .add (dtx x) ⟨#[64]⟩).run P w = .ok (.string (dtx x ++ ⟨#[64]⟩)) w) ∧
    (∀ w, (Op.stringOp .add (dtx x ++ ⟨#[64]⟩) (dtx y)).run P w = .ok (.string (dtx x ++ ⟨#[64]⟩ ++ dtx y)) w) := by
  have a := dtx_size (n := x) (by omega) (by omega)
  have b := dtx_size (n := y) (by omega) (by omega)
  have d : (⟨#[64]⟩ : ByteArray).size = 1 := rfl
  refine ⟨str_add (by omega), str_add ?_⟩
  all_goals simp only [ByteArray.size_append]; omega

set_option maxHeartbeats 2000000 in
theorem impl_TrackText_ok (a : Option Addr) (n c : Nat) (L G : Nat → Int) (lf lu : Int) (w : World) (hP : PassAt w a n L G) (hok : trackOk L G n lf lu = true) (hT : PowAt w) :
    Calls Tryz.prog 10 #[.agg #[.slice a n c, .int .i64 lf, .int .i64 lu]] w fun e w' => e = .returned (.string (accT lf lu L G n)) ∧ Below w.heap.size w w' := by
  obtain ⟨n1, n12, hsec, hlen⟩ := track_at hok
  have kv := fun W h => impl_ValidTrack a n c L G lf lu W h (by omega)
  rw [hok] at kv
  have hb : 0 ≤ lf ∧ lf ≤ 3000000 ∧ 0 ≤ lu ∧ lu ≤ 3000000 := by
    unfold trackOk at hok
    simp only [Bool.and_eq_true, inB_true, decide_eq_true_eq] at hok
    omega
  obtain ⟨b0, b1, b2, b3⟩ := hb
  have kd := fun n W h0 h1 hT => impl_Decimal_t n W h0 h1 hT
  obtain ⟨a1, a2, a3⟩ := head_adds Tryz.prog ⟨b0, b1⟩ ⟨b2, b3⟩
  have H0 := Lib.hid (show wordsT lf lu L G 0 = [headW lf lu] from rfl)
  generalize headW lf lu = HW at *
  generalize (⟨#[108, 111, 111, 112, 32]⟩ : ByteArray) ++ dtx lf = T1 at *
  generalize T1 ++ ⟨#[44]⟩ = T2 at *
  go_enter Tryz.func10, Tryz.ntmps10
  have R := Row3.made w (.slice a n c) (.int .i64 lf) (.int .i64 lu) 26
  have bA : Below w.heap.size w (w.alloc (Obj.cells #[.slice a n c, .int .i64 lf, .int .i64 lu] 26)) := Below.alloc (Below.refl _ _) (Nat.le_refl _) _
  have hP1 := hP.below bA
  go_wp2_with fail
  generalize w.alloc (Obj.cells #[.slice a n c, .int .i64 lf, .int .i64 lu] 26) = w0 at *
  refine (kv _ hP1).mono ?_
  rintro e w1 ⟨rfl, hb1⟩
  have R1 := R.below hb1
  have hP2 := hP1.below hb1
  have hB := bA.trans (hb1.mono (by have := R.lt; omega))
  have hT1 := hT.below hB
  have c0 := R1.c0
  have c1 := R1.c1
  have c2 := R1.c2
  have lt1 := R1.lt
  clear hP1 R bA hb1 kv
  go_wp2_with fail
  (refine wp_region_cls_tail 9 (by kernel_rfl) (by kernel_rfl) ?_; simp only [List.take_succ_cons, List.take_zero, List.drop_succ_cons, List.drop_zero]; (repeat (go_big_quiet_step ((go_at_call 29; exact cls_B (kd _ _ (by omega) (by omega) (hT1.below (Cls.below _))))))); refine wpQuiet_nil ?_; rintro _ ⟨u, rfl⟩; have hb := u.below; replace hB := hB.trans (hb.mono hB.size); generalize u.w = w' at *; obtain ⟨hc, hf, hs⟩ := bkeep hb; have hq' := hb.size; have hq := hB.size; have hb' := hb; clear hb)
  have R2 := R1.below hb'
  have d0 := R2.c0
  have bA := Below.alloc hB hB.size (Obj.cells #[.string HW] 9)
  have hS0 := StrsOf.made (x := HW) hB.size
  rw [← H0.out] at hS0
  have d1 : (w'.alloc (Obj.cells #[.string HW] 9)).cell? ⟨w.heap.size, 0, none⟩ = some (.slice a n c) := (Below.alloc (Below.refl _ _) (Nat.le_refl _) (Obj.cells #[.string HW] 9)).cell (p := ⟨w.heap.size, 0, none⟩) R2.lt |>.trans d0
  clear R1 R2 c0 c1 c2 lt1 hT1 hP2 hb' hc hf hs hq hq' d0 hB
  go_wp2_with fail
  generalize w'.alloc (Obj.cells #[.string HW] 9) = w2 at *
  go_loopw [3, 22] (fun s i wr => ∃ k : Nat, k ≤ n ∧ i = .int .i64 (k : Int) ∧ StrsOf w.heap.size wr s (wordsT lf lu L G k) ∧ Below w.heap.size w wr) (fun _ i _ => n - (intOf i).toNat)
  case atStart => exact ⟨0, by omega, rfl, hS0, bA⟩
  case round =>
    clear hS0 bA d1
    obtain ⟨k, hk, rfl, hS, hB⟩ := hrel
    by_cases hlt : k < n
    · obtain ⟨b, o, rfl, hbb, hc⟩ := id hP (by omega)
      obtain ⟨p0, p1⟩ := hc k hlt
      have ck0 := (hB.cell (p := ⟨b, o + k * 2, none⟩) hbb).trans p0
      have ck1 := (hB.cell (p := ⟨b, o + k * 2 + 1, none⟩) hbb).trans p1
      have k0 : (0 : Int) ≤ (k : Int) := by omega
      have k1 : (k : Int) < (n : Int) := by omega
      obtain ⟨l1, l2, g1, g2⟩ := secs_at hsec hlt
      obtain ⟨s1, s2⟩ := sec_adds Tryz.prog (x := L k) (y := G k) (by omega) (by omega)
      have HN := Lib.hid (wordsT_succ lf lu L G k)
      have HSW := Lib.hid (show dtx (L k) ++ ⟨#[64]⟩ ++ dtx (G k) = secW L G k from rfl)
      clear hc p0 p1
      generalize dtx (L k) ++ ⟨#[64]⟩ = S1 at *
      generalize S1 ++ dtx (G k) = S2 at *
      go_upto_region 7 with fail
      have bS : Below wr.heap.size wr (wr.alloc (Obj.cells #[.int .i64 (L k), .int .i64 (G k)] 50)) := Below.alloc (Below.refl _ _) (Nat.le_refl _) _
      have e0 : (wr.alloc (Obj.cells #[.int .i64 (L k), .int .i64 (G k)] 50)).cell? ⟨wr.heap.size, 0, none⟩ = some (.int .i64 (L k)) := by go_cell
      have e1 : (wr.alloc (Obj.cells #[.int .i64 (L k), .int .i64 (G k)] 50)).cell? ⟨wr.heap.size, 1, none⟩ = some (.int .i64 (G k)) := by go_cell
      have ltS : wr.heap.size < (wr.alloc (Obj.cells #[.int .i64 (L k), .int .i64 (G k)] 50)).heap.size := by simp
      have hS1 := hS.below bS
      have hB' := hB.trans (bS.mono hB.size)
      have hT1 := hT.below hB'
      clear ck0 ck1 bS hS hB
      generalize wr.alloc (Obj.cells #[.int .i64 (L k), .int .i64 (G k)] 50) = wt at *
      generalize wr.heap.size = X at *
      have hB := hB'
      clear hB'
      (refine wp_region_cls_tail1 9 (by kernel_rfl) (by kernel_rfl) (fun _ _ _ h => h) ?_; simp only [List.take_succ_cons, List.take_zero, List.drop_succ_cons, List.drop_zero, Nat.add_one_sub_one, Nat.reduceSub]; (conv => arg 6; simp [go_sem]); (repeat (go_big_quiet_step ((go_at_call 29; exact cls_B (kd _ _ (by omega) (by omega) (hT1.below (Cls.below _))))))); refine wpQuiet_nil ?_; rintro _ ⟨u, rfl⟩; have hb := u.below; replace hB := hB.trans (hb.mono hB.size); generalize u.w = w' at *; obtain ⟨hc, hf, hs⟩ := bkeep hb; have hq' := hb.size; have hq := hB.size; have hb' := hb; clear hb)
      have hS7 := hS1.below hb'
      have hB7 := hB
      have hLn := wordsT_len lf lu L G k
      clear hS1 e0 e1 ltS hT1 hb' hc hf hs hq hq' hB
      rw [HSW.out] at *
      generalize wordsT lf lu L G k = WL at *
      generalize secW L G k = T at *
      go_wp2_with (at_builtin; refine app_cells 60 9 _ 1 16 string_info Tryz.underlying60 rfl (by decide) (by decide) _ rfl _ _ rfl w.heap.size _ _ _ rfl (World.ownsRow.alloc hS7 _) _ _ [.string T] rfl rfl (cells1 (by go_cell)) (oneS _) (by omega) (by have := hB7.size; simp; omega) ?_; intro v' w8 hL hb8 _; have hS8 := StrsOf.snoc (c := T) hL; have hB8 := (Below.alloc hB7 hB7.size _).trans hb8; clear hL hb8)
      go_roundw
      case rel => exact ⟨k + 1, by omega, by go_num, by rw [HN.out]; exact hS8, hB8⟩
      case measure => simp [intOf]; omega
    · obtain rfl : k = n := by omega
      have HR := Lib.hid (wordsT_join lf lu L G k)
      have hsz := accT_size (L := L) (G := G) ⟨b0, b1⟩ ⟨b2, b3⟩ k (fun j hj => by have := secs_at hsec hj; omega)
      obtain ⟨g, c8, rfl, hg, hc8, hcs⟩ := hS.at (by rw [wordsT_len]; omega)
      have kj := fun W hcells hbk => Go.Proofs.Tryz.strings_Join g 0 c8 (wordsT lf lu L G k) ⟨#[32]⟩ W hcells hbk (by rw [wordsT_len]; omega) hc8 (by show (Go.Lib.join _ [32]).length ≤ _; rw [HR.out, len_data]; omega)
      have HE := Lib.hid (show (⟨(Go.Lib.join ((wordsT lf lu L G k).map (·.data.toList)) ((⟨#[32]⟩ : ByteArray).data.toList)).toArray⟩ : ByteArray) = accT lf lu L G k by show (⟨(Go.Lib.join _ [32]).toArray⟩ : ByteArray) = _; rw [HR.out])
      rw [HE.out] at kj
      simp only [wordsT_len] at kj ⊢
      go_wp2_with (go_at_call 30; (with_reducible refine (kj _ hcs hg).mono ?_); rintro e w7 ⟨rfl, hb⟩; have hB7 := hB.trans (hb.mono hB.size))
      go_returns
      exact ⟨rfl, hB7⟩

end Go.Proofs.YteccpafoojkmjaaGreatDoor
/-
  A track read back from its text (the given program's side).
-/
namespace Go.Proofs.YteccpafoojkmjaaGreatDoor
open Go.RowKit
open Go.Lib (itoa decDigits)
set_option linter.unusedVariables false
set_option linter.unusedSimpArgs false

def pairsT (L G : Nat → Int) (k : Nat) : List (Int × Int) := (List.range k).map fun j => (L j, G j)
theorem pairsT_len (L G : Nat → Int) (k : Nat) : (pairsT L G k).length = k := by simp [pairsT]
theorem pairsT_succ (L G : Nat → Int) (k : Nat) : pairsT L G (k + 1) = pairsT L G k ++ [(L k, G k)] := by simp [pairsT, List.range_succ]
theorem pairsT_at {L G : Nat → Int} {k j : Nat} (h : j < k) : (pairsT L G k).getD j (0, 0) = (L j, G j) := by simp [pairsT, h]
theorem pieces_len (lf lu : Int) (L G : Nat → Int) (n : Nat) : (splitL (accT lf lu L G n) 32).length = n + 2 := by rw [split_accT]; simp
theorem piece_one (lf lu : Int) (L G : Nat → Int) (n : Nat) : (splitL (accT lf lu L G n) 32)[1]? = some (dtx lf ++ ⟨#[44]⟩ ++ dtx lu) := by rw [split_accT]; rfl
theorem piece_at (lf lu : Int) (L G : Nat → Int) {n j : Nat} (h : j < n) : (splitL (accT lf lu L G n) 32)[j + 2]? = some (secW L G j) := by
  rw [split_accT]
  show ((List.range n).map (secW L G))[j]? = _
  simp [h]

set_option maxHeartbeats 4000000 in
theorem impl_ReadTrack_ok (n : Nat) (L G : Nat → Int) (lf lu : Int) (s : ByteArray) (w : World) (hok : trackOk L G n lf lu = true) (hs : accT lf lu L G n = s) (hT : Tabs w) (hM : MaxAt w) :
    Calls Tryz.prog 9 #[.string s] w fun e w' => (∃ a c, e = .returned (.tuple #[.agg #[.slice a n c, .int .i64 lf, .int .i64 lu], .bool true]) ∧ PassAt w' a n L G) ∧ Below w.heap.size w w' := by
  obtain ⟨n1, n12, hsec, hlen⟩ := track_at hok
  have hb : 0 ≤ lf ∧ lf ≤ 3000000 ∧ 0 ≤ lu ∧ lu ≤ 3000000 := by
    have hok := hok
    unfold trackOk at hok
    simp only [Bool.and_eq_true, inB_true, decide_eq_true_eq] at hok
    omega
  obtain ⟨b0, b1, b2, b3⟩ := hb
  have hsz := accT_size (lf := lf) (lu := lu) (L := L) (G := G) ⟨b0, b1⟩ ⟨b2, b3⟩ n (fun j hj => by have := secs_at hsec hj; omega)
  rw [hs] at hsz
  have ks := fun W h => strings_Split_c s 32 W (by omega) h
  have hl := pieces_len lf lu L G n
  have hp1 := piece_one lf lu L G n
  have hpk := fun j (h : j < n) => piece_at lf lu L G h
  rw [hs] at hl hp1 hpk
  have hc2 := headW_cut lf lu
  have HSZ : (dtx lf ++ ⟨#[44]⟩ ++ dtx lu).size ≤ 1048576 := by
    have a := dtx_size (n := lf) (by omega) (by omega)
    have b := dtx_size (n := lu) (by omega) (by omega)
    simp only [ByteArray.size_append]
    show (dtx lf).size + 1 + (dtx lu).size ≤ _
    omega
  have kc := fun W h => strings_Cut_c (dtx lf ++ ⟨#[44]⟩ ++ dtx lu) 44 W HSZ h
  rw [hc2.1, hc2.2] at kc
  have kr := fun (z : Int) (h : 0 ≤ z ∧ z ≤ 3000000) W hT => impl_ReadDecimal (dtx z) W (by have := dtx_size (n := z) (by omega) (by omega); omega) hT
  have kr := fun (z : Int) (h : 0 ≤ z ∧ z ≤ 3000000) W hT => by have e := kr z h W hT; rw [(num_back (z := z) (by omega) (by omega)).1, (num_back (z := z) (by omega) (by omega)).2] at e; exact e
  generalize dtx lf ++ ⟨#[44]⟩ ++ dtx lu = P1 at *
  have HL := Lib.hid hl
  have HP1 := Lib.hid hp1
  have HPK := Lib.hid hpk
  clear hl hp1 hpk hc2 HSZ hsz
  go_enter Tryz.func9, Tryz.ntmps9
  have bA : Below w.heap.size w (w.alloc (Obj.cells #[.slice none 0 0, .int .i64 0, .int .i64 0] 26)) := Below.alloc (Below.refl _ _) (Nat.le_refl _) _
  have R0 := Row3.made w (.slice none 0 0) (.int .i64 0) (.int .i64 0) 26
  go_wp2_with fail
  generalize w.alloc (Obj.cells #[.slice none 0 0, .int .i64 0, .int .i64 0] 26) = w0 at *
  generalize hX : w.heap.size = X at *
  refine (ks _ (by rw [← hX] at bA; exact hM.below bA)).mono ?_
  rintro e w1 ⟨⟨v, rfl, hS⟩, hb1⟩
  replace hS : StrsOf w0.heap.size w1 v (splitL s 32) := hS
  obtain ⟨g, c8, rfl, hg, hc8, hcs⟩ := hS.at (by rw [HL.out]; omega)
  have R1 := R0.below hb1
  have hB := bA.trans (hb1.mono (by have := R0.lt; omega))
  have q1 : w1.cell? ⟨g, 1, none⟩ = some (.string P1) := by have := hcs 1 _ HP1.out; rwa [Nat.zero_add] at this
  rw [HL.out] at hc8 ⊢
  have HCS := Lib.hid (fun j (h : j < n) => hcs (j + 2) _ (HPK.out j h))
  have n3 : ¬ ((n + 2 : Nat) : Int) < 3 := by omega
  have n3' : (1 : Int) < ((n + 2 : Nat) : Int) := by omega
  clear R0 bA hb1 ks hS hcs
  go_wp2_with fail
  refine (kc _ (by rw [← hX] at hB; exact hM.below hB)).mono ?_
  rintro e w2 ⟨⟨bb, rfl⟩, hb2⟩
  have HTB : ∀ W, Below X w W → Tabs W := fun W h => hT.below (by rw [hX]; exact h)
  have R2 := R1.below hb2
  have hB2 := hB.trans (hb2.mono (by have := R1.lt; omega))
  have K2 := hb2
  clear hb2 hB R1 kc q1 n3 n3' hT
  have bY : Below w2.heap.size w2 (w2.alloc (Obj.cells #[.slice none 0 0, .int .i64 0, .int .i64 0] 26)) := Below.alloc (Below.refl _ _) (Nat.le_refl _) _
  have T3 := Row3.made w2 (.slice none 0 0) (.int .i64 0) (.int .i64 0) 26
  have lX := R2.lt
  have lg : g < w2.heap.size := Nat.lt_of_lt_of_le hg K2.size
  have HC2 := Lib.hid (fun j (h : j < n) => (K2.cell (p := ⟨g, 0 + (j + 2), none⟩) hg).trans (HCS.out j h))
  clear HCS K2 hg
  go_upto_region 6 with fail
  generalize w2.alloc (Obj.cells #[.slice none 0 0, .int .i64 0, .int .i64 0] 26) = w3 at *
  generalize hY : w2.heap.size = Y at *
  have hB3 := hB2.trans (bY.mono (by omega))
  go_wp2_with fail
  refine (kr lf ⟨b0, b1⟩ _ (HTB _ hB3)).mono ?_
  rintro e w4 ⟨rfl, hb4⟩
  have T4 := T3.below hb4
  have D4 := bY.trans (hb4.mono (by have := T3.lt; omega))
  have f1 := T4.f1
  have c1 := T4.c1
  have hB4 := hB3.trans (hb4.mono (by have := hB3.size; omega))
  clear hb4 T3 bY hB3
  have T5 := T4.set1 (y' := .int .i64 lf)
  have D5 := below_set (u := .int .i64 lf) (o := 1) D4 (Nat.le_refl Y)
  have hB5 := below_set (u := .int .i64 lf) (o := 1) hB4 (show X ≤ Y by omega)
  go_upto_region 7 with fail
  clear f1 c1 T4 D4 hB4
  generalize w4.setCell ⟨Y, 1, none⟩ (.int .i64 lf) = w5 at *
  go_wp2_with fail
  refine (kr lu ⟨b2, b3⟩ _ (HTB _ hB5)).mono ?_
  rintro e w6 ⟨rfl, hb6⟩
  have T6 := T5.below hb6
  have D6 := D5.trans (hb6.mono (by have := T5.lt; omega))
  have f2 := T6.f2
  have c2 := T6.c2
  have hB6 := hB5.trans (hb6.mono (by have := hB5.size; omega))
  clear hb6 T5 D5 hB5
  have T7 := T6.set2 (z' := .int .i64 lu)
  have D7 := below_set (u := .int .i64 lu) (o := 2) D6 (Nat.le_refl Y)
  have hB7 := below_set (u := .int .i64 lu) (o := 2) hB6 (show X ≤ Y by omega)
  go_upto_region 8 with fail
  clear f2 c2 T6 D6 hB6
  generalize w6.setCell ⟨Y, 2, none⟩ (.int .i64 lu) = w7 at *
  go_wp2_with fail
  go_loopw [44] (fun i wr => ∃ k : Nat, k ≤ n ∧ i = .int .i64 (k : Int) ∧ (∃ v, Row3 wr Y v (.int .i64 lf) (.int .i64 lu) ∧ SeOf (Y + 1) wr v (pairsT L G k)) ∧ Below Y w2 wr ∧ Below X w wr) (fun i _ => n - (intOf i).toNat)
  case atStart => exact ⟨0, by omega, rfl, ⟨_, T7, World.ownsRow_nil _ _ _ _⟩, D7, hB7⟩
  case round =>
    clear T7 D7 hB7
    obtain ⟨k, hk, rfl, ⟨v', T, hSe⟩, hD, hB⟩ := hrel
    by_cases hlt : k < n
    · have ck := (hD.cell (p := ⟨g, 0 + (k + 2), none⟩) (by omega)).trans (HC2.out k hlt)
      have ck' : wr.cell? ⟨g, 2 + k, none⟩ = some (.string (secW L G k)) := by rw [show 2 + k = 0 + (k + 2) by omega]; exact ck
      have k1 : (k : Int) < (n : Int) := by omega
      clear ck
      go_upto_region 11 with fail
      obtain ⟨l1, l2, g1, g2⟩ := secs_at hsec hlt
      have hsw := secW_size (L := L) (G := G) (j := k) (by omega) (by omega)
      have kS := fun W h => strings_Cut_c (secW L G k) 64 W (by omega) h
      rw [(secW_cut L G k).1, (secW_cut L G k).2] at kS
      go_wp2_with fail
      refine (kS _ (hM.below (by rw [hX]; exact hB))).mono ?_
      rintro e w8 ⟨⟨b8, rfl⟩, hb8⟩
      have T8 := T.below hb8
      have lY := T.lt
      have hSe8 := hSe.below hb8
      have D8 := hD.trans (hb8.mono (by omega))
      have B8 := hB.trans (hb8.mono (by omega))
      have lY8 := T8.lt
      clear hb8 T hSe hD hB kS hsw ck' lY
      have bZ : Below w8.heap.size w8 (w8.alloc (Obj.cells #[.int .i64 0, .int .i64 0] 50)) := Below.alloc (Below.refl _ _) (Nat.le_refl _) _
      have z0 : (w8.alloc (Obj.cells #[.int .i64 0, .int .i64 0] 50)).cell? ⟨w8.heap.size, 0, none⟩ = some (.int .i64 0) := by go_cell
      have z1 : (w8.alloc (Obj.cells #[.int .i64 0, .int .i64 0] 50)).cell? ⟨w8.heap.size, 1, none⟩ = some (.int .i64 0) := by go_cell
      have zf0 : (w8.alloc (Obj.cells #[.int .i64 0, .int .i64 0] 50)).frozen? ⟨w8.heap.size, 0, none⟩ = false := by go_simp
      have zf1 : (w8.alloc (Obj.cells #[.int .i64 0, .int .i64 0] 50)).frozen? ⟨w8.heap.size, 1, none⟩ = false := by go_simp
      have zl : w8.heap.size < (w8.alloc (Obj.cells #[.int .i64 0, .int .i64 0] 50)).heap.size := by simp
      go_upto_region 13 with fail
      generalize w8.alloc (Obj.cells #[.int .i64 0, .int .i64 0] 50) = w9 at *
      have T9 := T8.below bZ
      have hSe9 := hSe8.below bZ
      have hne : v'.ownBlock ≠ some w8.heap.size := fun h => by have := (World.ownsRow.lt hSe8 _ h).2; omega
      have D9 := D8.trans (bZ.mono (by omega))
      have B9 := B8.trans (bZ.mono (by omega))
      clear bZ T8 hSe8 D8 B8
      generalize hZ : w8.heap.size = Z at *
      go_wp2_with fail
      refine (kr (L k) ⟨by omega, by omega⟩ _ (HTB _ B9)).mono ?_
      rintro e w10 ⟨rfl, hb10⟩
      have T10 := T9.below hb10
      have hSe10 := hSe9.below hb10
      have D10 := D9.trans (hb10.mono (by omega))
      have B10 := B9.trans (hb10.mono (by omega))
      have y0 := (hb10.cell (p := ⟨Z, 0, none⟩) zl).trans z0
      have y1 := (hb10.cell (p := ⟨Z, 1, none⟩) zl).trans z1
      have yf0 := (hb10.frozen (p := ⟨Z, 0, none⟩) zl).trans zf0
      have yf1 := (hb10.frozen (p := ⟨Z, 1, none⟩) zl).trans zf1
      have yl := Nat.lt_of_lt_of_le zl hb10.size
      clear z0 z1 zf0 zf1 zl hb10 T9 hSe9 D9 B9
      have T11 := T10.other (b := Z) (j := 0) (u := .int .i64 (L k)) (by omega)
      have hSe11 : SeOf (Y + 1) (w10.setCell ⟨Z, 0, none⟩ (.int .i64 (L k))) v' (pairsT L G k) := ownsRow_setCell_other hSe10 (a := ⟨Z, 0, none⟩) hne _
      have D11 := below_set (u := .int .i64 (L k)) (o := 0) D10 (show Y ≤ Z by omega)
      have B11 := below_set (u := .int .i64 (L k)) (o := 0) B10 (show X ≤ Z by omega)
      have x0 : (w10.setCell ⟨Z, 0, none⟩ (.int .i64 (L k))).cell? ⟨Z, 0, none⟩ = some (.int .i64 (L k)) := cell_same y0
      have x1 : (w10.setCell ⟨Z, 0, none⟩ (.int .i64 (L k))).cell? ⟨Z, 1, none⟩ = some (.int .i64 0) := cell_off y1 (by decide)
      have xf1 : (w10.setCell ⟨Z, 0, none⟩ (.int .i64 (L k))).frozen? ⟨Z, 1, none⟩ = false := by simpa using yf1
      have xl : Z < (w10.setCell ⟨Z, 0, none⟩ (.int .i64 (L k))).heap.size := lt_set yl
      go_upto_region 14 with fail
      clear y0 y1 yf0 yf1 yl T10 hSe10 D10 B10
      generalize w10.setCell ⟨Z, 0, none⟩ (.int .i64 (L k)) = w11 at *
      have lY11 := T11.lt
      go_wp2_with fail
      refine (kr (G k) ⟨by omega, by omega⟩ _ (HTB _ B11)).mono ?_
      rintro e w12 ⟨rfl, hb12⟩
      have T12 := T11.below hb12
      have hSe12 := hSe11.below hb12
      have D12 := D11.trans (hb12.mono (by omega))
      have B12 := B11.trans (hb12.mono (by omega))
      have y0 := (hb12.cell (p := ⟨Z, 0, none⟩) xl).trans x0
      have y1 := (hb12.cell (p := ⟨Z, 1, none⟩) xl).trans x1
      have yf1 := (hb12.frozen (p := ⟨Z, 1, none⟩) xl).trans xf1
      have yl := Nat.lt_of_lt_of_le xl hb12.size
      clear x0 x1 xf1 xl hb12 T11 hSe11 D11 B11
      have T13 := T12.other (b := Z) (j := 1) (u := .int .i64 (G k)) (by omega)
      have hSe13 : SeOf (Y + 1) (w12.setCell ⟨Z, 1, none⟩ (.int .i64 (G k))) v' (pairsT L G k) := ownsRow_setCell_other hSe12 (a := ⟨Z, 1, none⟩) hne _
      have D13 := below_set (u := .int .i64 (G k)) (o := 1) D12 (show Y ≤ Z by omega)
      have B13 := below_set (u := .int .i64 (G k)) (o := 1) B12 (show X ≤ Z by omega)
      have x0 : (w12.setCell ⟨Z, 1, none⟩ (.int .i64 (G k))).cell? ⟨Z, 0, none⟩ = some (.int .i64 (L k)) := cell_off y0 (by decide)
      have x1 : (w12.setCell ⟨Z, 1, none⟩ (.int .i64 (G k))).cell? ⟨Z, 1, none⟩ = some (.int .i64 (G k)) := cell_same y1
      go_upto_region 15 with fail
      clear y0 y1 yf1 yl T12 hSe12 D12 B12
      generalize w12.setCell ⟨Z, 1, none⟩ (.int .i64 (G k)) = w13 at *
      obtain ⟨av0, cv0, rfl, _⟩ := SeOf.pass hSe13
      have HPl := Lib.hid (pairsT_len L G k)
      have HPS := Lib.hid (pairsT_succ L G k)
      generalize pairsT L G k = PL at *
      have hS13 : w13.ownsRow (Y + 1) 50 2 (.slice av0 PL.length cv0) PL.length (PL.flatMap pairL) := hSe13
      have d0 := T13.c0
      have s13 := T13.lt
      go_wp2_with (at_builtin; refine app_sec _ rfl _ _ rfl (Y + 1) (.slice av0 PL.length cv0) PL rfl (World.ownsRow.alloc hS13 _) w13.heap.size 1 (L k) (G k) rfl (by go_cell) (by go_cell) (by have := HPl.out; omega) (by simp; omega) ?_; intro v8 w14 hP8 hw8 hk8; obtain ⟨av, cv, rfl, _⟩ := SeOf.pass hP8; have T14 := (T13.below (Below.alloc (Below.refl _ _) (Nat.le_refl _) (Obj.cells #[.int .i64 (L k), .int .i64 (G k)] 50))).low hw8 (by omega); have d8 := T14.c0; have f8 := T14.f0)
      have T14 := (T13.below (Below.alloc (Below.refl _ _) (Nat.le_refl _) (Obj.cells #[.int .i64 (L k), .int .i64 (G k)] 50))).low hw8 (by omega)
      have ep : (PL ++ [(L k, G k)]).length = PL.length + 1 := by simp
      rw [ep] at hP8
      have D14 := (Below.alloc D13 (by omega) (Obj.cells #[.int .i64 (L k), .int .i64 (G k)] 50)).trans (hw8.mono (by omega))
      have B14 := (Below.alloc B13 (by omega) (Obj.cells #[.int .i64 (L k), .int .i64 (G k)] 50)).trans (hw8.mono (by omega))
      go_roundw
      case rel => exact ⟨k + 1, by omega, by go_num, ⟨_, T14.set0, by rw [HPS.out]; unfold SeOf; unfold SeOf at hP8; exact ownsRow_low hP8 (by omega)⟩, below_set D14 (Nat.le_refl Y), below_set B14 (show X ≤ Y by omega)⟩
      case measure => simp [intOf]; omega
    · obtain rfl : k = n := by omega
      obtain ⟨av0, cv0, rfl, hPA⟩ := SeOf.pass hSe
      have hPA2 : PassAt wr av0 k L G := fun h0 => by
        obtain ⟨b, o, e, hb, hc⟩ := hPA (by rw [pairsT_len]; exact h0)
        exact ⟨b, o, e, hb, fun j hj => by have := hc j (by rw [pairsT_len]; exact hj); dsimp only at this; rw [pairsT_at hj] at this; exact this⟩
      have hAv : ∀ b o, av0 = some ⟨b, o, none⟩ → Y + 1 ≤ b := by
        intro b o e
        obtain ⟨a, c, hv, ho⟩ := own_outN hSe
        obtain ⟨rfl, -, rfl⟩ := Value.slice.inj hv
        obtain ⟨g', hgg, hB', _⟩ := ho (by rw [pairsT_len]; omega)
        have := congrArg (fun x : Option Addr => x.elim 0 Addr.block) (e.symm.trans hgg)
        have h2 : b = g' := this
        omega
      rw [pairsT_len] at T
      have kv := fun W h => impl_ValidTrack av0 k cv0 L G lf lu W h (by omega)
      rw [hok] at kv
      have kt := fun W h hT => impl_TrackText_ok av0 k cv0 L G lf lu W h hok hT
      rw [hs] at kt
      have RX := R2.low hD (by omega)
      have d0 := T.c0
      have d1 := T.c1
      have d2 := T.c2
      clear hPA hSe hD HC2 R2 HPK HP1 HL kr
      go_wp2_with fail
      refine (kv _ hPA2).mono ?_
      rintro e w8 ⟨rfl, hb8⟩
      have lY := T.lt
      have T8 := T.below hb8
      have R8 := RX.below hb8
      have hP8 := hPA2.below hb8
      have B8 := hB.trans (hb8.mono (by omega))
      clear d0 d1 d2 T RX hPA2 hB hb8 kv
      have d0 := T8.c0
      have d1 := T8.c1
      have d2 := T8.c2
      have lY8 := T8.lt
      go_wp2_with fail
      refine (kt _ hP8 (HTB _ B8).1).mono ?_
      rintro e w9 ⟨rfl, hb9⟩
      have T9 := T8.below hb9
      have R9 := R8.below hb9
      have hP9 := hP8.below hb9
      have B9 := B8.trans (hb9.mono (by omega))
      clear d0 d1 d2 T8 R8 hP8 B8 hb9 kt
      have d0 := T9.c0
      have d1 := T9.c1
      have d2 := T9.c2
      have f0 := R9.f0
      have f1 := R9.f1
      have f2 := R9.f2
      have c0 := R9.c0
      have c1 := R9.c1
      have c2 := R9.c2
      have hne : Y ≠ X := by omega
      go_wp2_with fail
      refine bodyPost_ret (by simp [results, Tryz.results9, go_sem, *]; try rfl) rfl ?_
      exact ⟨⟨_, _, rfl, fun h0 => by
        obtain ⟨b, o, e, hb, hc⟩ := hP9 h0
        have hbY := hAv _ _ e
        refine ⟨b, o, e, by repeat (first | exact hb | refine lt_set ?_), fun j hj => ⟨?_, ?_⟩⟩
        · repeat (first | exact (hc j hj).1 | refine cell_far ?_ (by omega))
        · repeat (first | exact (hc j hj).2 | refine cell_far ?_ (by omega))⟩, by rw [hX]; repeat (first | exact B9 | refine below_set ?_ (by omega))⟩

end Go.Proofs.YteccpafoojkmjaaGreatDoor
/-
  Contracts: a state of the controller drawn; whether a list has a number.
-/
namespace Go.Proofs.YteccpafoojkmjaaGreatDoor
open Go.RowKit
set_option linter.unusedVariables false
set_option linter.unusedSimpArgs false

theorem step_ok {x : St} {ev : Int} (h : x.ok = true) : (step x ev).ok = true := by
  unfold step
  split
  · exact after_ok h
  · exact h
theorem StAt.other {w : World} {g b j : Nat} {x : St} {u : Value} (h : StAt w g x) (hb : b ≠ g) : StAt (w.setCell ⟨b, j, none⟩ u) g x :=
  h.keep ((Keep.refl b (b + 1) w).set (Nat.le_refl _) (Nat.lt_succ_self _)) (by omega)
theorem StAt.set2 {w : World} {g : Nat} {m : Int} {o a b e : Bool} (h : StAt w g ⟨m, o, a, b, e⟩) (u : Bool) : StAt (w.setCell ⟨g, 2, none⟩ (.bool u)) g ⟨m, o, u, b, e⟩ :=
  (OwnIn.set h (show 2 < 5 by decide) _).cong (fun q hq => by
    rcases (show q = 0 ∨ q = 1 ∨ q = 2 ∨ q = 3 ∨ q = 4 by omega) with rfl | rfl | rfl | rfl | rfl <;> rfl)
theorem StAt.set3 {w : World} {g : Nat} {m : Int} {o a b e : Bool} (h : StAt w g ⟨m, o, a, b, e⟩) (u : Bool) : StAt (w.setCell ⟨g, 3, none⟩ (.bool u)) g ⟨m, o, a, u, e⟩ :=
  (OwnIn.set h (show 3 < 5 by decide) _).cong (fun q hq => by
    rcases (show q = 0 ∨ q = 1 ∨ q = 2 ∨ q = 3 ∨ q = 4 by omega) with rfl | rfl | rfl | rfl | rfl <;> rfl)
theorem StAt.set4 {w : World} {g : Nat} {m : Int} {o a b e : Bool} (h : StAt w g ⟨m, o, a, b, e⟩) (u : Bool) : StAt (w.setCell ⟨g, 4, none⟩ (.bool u)) g ⟨m, o, a, b, u⟩ :=
  (OwnIn.set h (show 4 < 5 by decide) _).cong (fun q hq => by
    rcases (show q = 0 ∨ q = 1 ∨ q = 2 ∨ q = 3 ∨ q = 4 by omega) with rfl | rfl | rfl | rfl | rfl <;> rfl)
theorem Keep.putFresh {lo hi g : Nat} {w w' : World} {u0 u1 u2 u3 u4 : Value} (h : Keep lo hi w w') (hB : w.heap.size ≤ g) : Keep lo hi w (((((w'.setCell ⟨g, 0, none⟩ u0).setCell ⟨g, 1, none⟩ u1).setCell ⟨g, 2, none⟩ u2).setCell ⟨g, 3, none⟩ u3).setCell ⟨g, 4, none⟩ u4) :=
  (((((h.setFresh (B := 0) hB).setFresh (B := 0) hB).setFresh (B := 0) hB).setFresh (B := 0) hB).setFresh (B := 0) hB)
theorem StAt.putOther {w : World} {g b : Nat} {x : St} {u0 u1 u2 u3 u4 : Value} (h : StAt w g x) (hb : b ≠ g) : StAt (((((w.setCell ⟨b, 0, none⟩ u0).setCell ⟨b, 1, none⟩ u1).setCell ⟨b, 2, none⟩ u2).setCell ⟨b, 3, none⟩ u3).setCell ⟨b, 4, none⟩ u4) g x :=
  (((((h.other hb).other hb).other hb).other hb).other hb)
theorem SrcAt.putUp {w : World} {g b : Nat} {A : Int} {u0 u1 u2 u3 u4 : Value} (h : SrcAt w g A) (hb : g < b) : SrcAt (((((w.setCell ⟨b, 0, none⟩ u0).setCell ⟨b, 1, none⟩ u1).setCell ⟨b, 2, none⟩ u2).setCell ⟨b, 3, none⟩ u3).setCell ⟨b, 4, none⟩ u4) g A :=
  (((((h.setUp hb).setUp hb).setUp hb).setUp hb).setUp hb)

theorem spec_l13First (w : World) : Calls Tryz.prog 41 #[] w fun e' w' => e' = .returned (.agg #[.int .i64 0, .bool false, .bool false, .bool false, .bool true]) ∧ Below w.heap.size w w' := by
  go_enter Tryz.func41, Tryz.ntmps41
  go_wp2
  go_returns
  exact ⟨rfl, by go_grown⟩

theorem spec_l13Next_some (m : Int) (o a b e : Bool) (ev : Int) (w : World) (h1 : 1 ≤ ev) (h2 : ev ≤ 9) (h3 : 0 ≤ m) (h4 : m ≤ 4) : Calls Tryz.prog 42 #[.agg #[.int .i64 m, .bool o, .bool a, .bool b, .bool e], .int .i64 ev] w
    fun e' w' => ∃ m1 o1 a1 b1 e1 al, e' = .returned (.tuple #[.agg #[.int .i64 m1, .bool o1, .bool a1, .bool b1, .bool e1], .bool al]) ∧ 0 ≤ m1 ∧ m1 ≤ 4 ∧ Below w.heap.size w w' :=
  (spec_l13Next m o a b e ev w h1 h2).mono fun e' w' ⟨he, hb⟩ => by
    have hk : (step ⟨m, o, a, b, e⟩ ev).ok = true := step_ok (inB_true.2 ⟨h3, h4⟩)
    generalize step ⟨m, o, a, b, e⟩ ev = y at *
    obtain ⟨y0, y1, y2, y3, y4⟩ := y
    obtain ⟨k1, k2⟩ := inB_true.1 hk
    exact ⟨y0, y1, y2, y3, y4, _, he, k1, k2, hb⟩

set_option maxHeartbeats 16000000 in
theorem spec_l13Draw (g : Nat) (w : World) (h : SrcAt w g 0) :
    Calls Tryz.prog 24 #[.pointer (some ⟨g, 0, none⟩)] w fun e' w' => ∃ m o a b e, e' = .returned (.agg #[.int .i64 m, .bool o, .bool a, .bool b, .bool e]) ∧ 0 ≤ m ∧ m ≤ 4 ∧ Keep g (g + 1) w w' := by
  have hg := h.lt
  have H := Lib.hid h
  clear h
  go_enter Tryz.func24, Tryz.ntmps24
  go_wp2_with fail
  have hR := StAt.made w 35 0 false false false false
  refine (spec_one g 0 2 _ (H.out.below (by go_grown)) (by omega) (by omega)).mono ?_
  rintro e w1 ⟨v, A1, rfl, a0, a1, H1, K1⟩
  have hR1 := hR.keep K1 (by omega)
  have KK1 : Keep g (g + 1) w w1 := (Keep.of_below (by go_grown)).trans K1
  have s1 : w.heap.size < w1.heap.size := hR1.lt
  clear K1 hR
  generalize hG : w.heap.size = G at *
  cases v
  · go_wp2_with fail
    refine (spec_pick g A1 5 _ H1 (by omega) (by omega)).mono ?_
    rintro e w2 ⟨m, A2, rfl, m0, m1, b0, b1, H2, K2⟩
    have hR2 := hR1.keep K2 (by omega)
    have KK2 := KK1.trans K2
    have m2 := m1 (by omega)
    clear H1 hR1 KK1 K2 m1 s1
    go_wp2_with fail
    refine (spec_one g A2 2 _ H2 (by omega) (by omega)).mono ?_
    rintro e w3 ⟨o, A3, rfl, b2, b3, H3, K3⟩
    have hR3 := hR2.keep K3 (by omega)
    have KK3 := KK2.trans K3
    have s3 : G < w3.heap.size := hR3.lt
    clear H2 hR2 KK2 K3
    go_wp2_with fail
    have hX := StAt.made w3 35 m o false false false
    have hR4 := hR3.below (w' := w3.alloc (Obj.cells #[.int .i64 m, .bool o, .bool false, .bool false, .bool false] 35)) (by go_grown)
    have H4 := H3.below (w' := w3.alloc (Obj.cells #[.int .i64 m, .bool o, .bool false, .bool false, .bool false] 35)) (by go_grown)
    have KK4 := KK3.alloc (o := Obj.cells #[.int .i64 m, .bool o, .bool false, .bool false, .bool false] 35)
    clear hR3 H3 KK3
    have hX3 : G < w3.heap.size := s3
    generalize w3.alloc (Obj.cells #[.int .i64 m, .bool o, .bool false, .bool false, .bool false] 35) = w4 at *
    generalize hE : w3.heap.size = E at *
    refine (spec_one g A3 2 _ H4 (by omega) (by omega)).mono ?_
    rintro e w5 ⟨a, A5, rfl, b4, b5, H5, K5⟩
    have hX5 := hX.keep K5 (by omega)
    have hR5 := hR4.keep K5 (by omega)
    have KK5 := KK4.trans K5
    have f2 := hX5.fr (show 2 < 5 by decide)
    have p2 := hX5.c2
    dsimp only at p2
    clear hX hR4 H4 KK4 K5
    go_wp2_with fail
    have hX6 := hX5.set2 a
    have hR6 := hR5.other (b := E) (j := 2) (u := .bool a) (by omega)
    have H6 := H5.setUp (b := E) (j := 2) (u := .bool a) (by omega)
    have KK6 := KK5.setFresh (g := E) (j := 2) (u := .bool a) (B := 0) (by omega)
    clear hX5 hR5 H5 KK5 f2 p2
    generalize w5.setCell ⟨E, 2, none⟩ (.bool a) = w6 at *
    refine (spec_one g A5 2 _ H6 (by omega) (by omega)).mono ?_
    rintro e w7 ⟨b, A7, rfl, b6, b7, H7, K7⟩
    have hX7 := hX6.keep K7 (by omega)
    have hR7 := hR6.keep K7 (by omega)
    have KK7 := KK6.trans K7
    have f2 := hX7.fr (show 3 < 5 by decide)
    have p2 := hX7.c3
    dsimp only at p2
    clear hX6 hR6 H6 KK6 K7
    go_wp2_with fail
    have hX8 := hX7.set3 b
    have hR8 := hR7.other (b := E) (j := 3) (u := .bool b) (by omega)
    have H8 := H7.setUp (b := E) (j := 3) (u := .bool b) (by omega)
    have KK8 := KK7.setFresh (g := E) (j := 3) (u := .bool b) (B := 0) (by omega)
    clear hX7 hR7 H7 KK7 f2 p2
    generalize w7.setCell ⟨E, 3, none⟩ (.bool b) = w8 at *
    refine (spec_one g A7 2 _ H8 (by omega) (by omega)).mono ?_
    rintro e w9 ⟨e4, A9, rfl, b8, b9, H9, K9⟩
    have hX9 := hX8.keep K9 (by omega)
    have hR9 := hR8.keep K9 (by omega)
    have KK9 := KK8.trans K9
    have f2 := hX9.fr (show 4 < 5 by decide)
    have p2 := hX9.c4
    have p0 := hX9.c0
    have p1 := hX9.c1
    have p3 := hX9.c2
    have p4 := hX9.c3
    have r0 := hR9.c0
    have r1 := hR9.c1
    have r2 := hR9.c2
    have r3 := hR9.c3
    have r4 := hR9.c4
    have k0 := hR9.fr (show 0 < 5 by decide)
    have k1 := hR9.fr (show 1 < 5 by decide)
    have k2 := hR9.fr (show 2 < 5 by decide)
    have k3 := hR9.fr (show 3 < 5 by decide)
    have k4 := hR9.fr (show 4 < 5 by decide)
    have hEG : E ≠ G := by omega
    have hGE : G ≠ E := by omega
    dsimp only at p0 p1 p2 p3 p4 r0 r1 r2 r3 r4
    clear hX8 hR8 H8 KK8 K9
    go_wp2
    refine bodyPost_ret (by simp [results, Tryz.results24, go_sem, *]; try rfl) rfl ?_
    exact ⟨m, o, a, b, e4, rfl, m0, by omega, (KK9.setFresh (B := 0) (by omega)).putFresh (by omega)⟩
  · go_wp2_with fail
    refine (spec_l13First _).mono ?_
    rintro e w2 ⟨rfl, hb⟩
    have hR2 := hR1.below hb
    have H2 := H1.below hb
    have KK2 := KK1.thenBelow hb
    have s2 : G < w2.heap.size := hR2.lt
    clear H1 hR1 KK1 hb s1
    go_wp2_with fail
    have hX := StAt.made w2 35 0 false false false true
    have hR4 := hR2.below (w' := w2.alloc (Obj.cells #[.int .i64 0, .bool false, .bool false, .bool false, .bool true] 35)) (by go_grown)
    have H4 := H2.below (w' := w2.alloc (Obj.cells #[.int .i64 0, .bool false, .bool false, .bool false, .bool true] 35)) (by go_grown)
    have KK4 := KK2.alloc (o := Obj.cells #[.int .i64 0, .bool false, .bool false, .bool false, .bool true] 35)
    clear hR2 H2 KK2
    generalize w2.alloc (Obj.cells #[.int .i64 0, .bool false, .bool false, .bool false, .bool true] 35) = w4 at *
    generalize hE : w2.heap.size = E at *
    refine (spec_pick g A1 12 _ H4 (by omega) (by omega)).mono ?_
    rintro e w5 ⟨v, A5, rfl, v0, v1, b4, b5, H5, K5⟩
    have hX5 := hX.keep K5 (by omega)
    have hR5 := hR4.keep K5 (by omega)
    have KK5 := KK4.trans K5
    have v2 := v1 (by omega)
    obtain ⟨V, rfl⟩ : ∃ V : Nat, v = V := ⟨v.toNat, by omega⟩
    clear hX hR4 H4 KK4 K5 v1 v0
    go_wp2_with fail
    go_loopw [4] (fun i wr => ∃ (k : Nat) (m : Int) (o a b e : Bool) (A : Int), k ≤ 11 ∧ i = .int .i64 (k : Int) ∧ SrcAt wr g A ∧ A ≤ 100 - 4 * k ∧ StAt wr E ⟨m, o, a, b, e⟩ ∧ 0 ≤ m ∧ m ≤ 4 ∧ StAt wr G ⟨0, false, false, false, false⟩ ∧ Keep g (g + 1) w wr) (fun i _ => (intOf i).toNat)
    case atStart => exact ⟨V, 0, false, false, false, true, A5, by omega, rfl, H5, by omega, hX5, by omega, by omega, hR5, KK5⟩
    case round =>
      clear hX5 hR5 KK5 H5
      obtain ⟨k, m, o, a, b, e, A, hk, rfl, HS, hA, hX, m0, m4, hR, KK⟩ := hrel
      have p0 := hX.c0
      have p1 := hX.c1
      have p2 := hX.c2
      have p3 := hX.c3
      have p4 := hX.c4
      dsimp only at p0 p1 p2 p3 p4
      have hEG : E ≠ G := by omega
      have hGE : G ≠ E := by omega
      by_cases hlt : 0 < k
      · have k1 : (0 : Int) < (k : Int) := by omega
        have hXl := hX.lt
        go_upto_region 6 with fail
        go_cut [5, 6] (fun p q W => ∃ (h : Nat) (m' : Int) (o' a' b' e' al : Bool) (A' : Int), p = .pointer (some ⟨h, 0, none⟩) ∧ q = .bool al ∧ h ≠ E ∧ W.cell? ⟨h, 0, none⟩ = some (.int .i64 m') ∧ W.cell? ⟨h, 1, none⟩ = some (.bool o') ∧ W.cell? ⟨h, 2, none⟩ = some (.bool a') ∧ W.cell? ⟨h, 3, none⟩ = some (.bool b') ∧ W.cell? ⟨h, 4, none⟩ = some (.bool e') ∧ 0 ≤ m' ∧ m' ≤ 4 ∧ SrcAt W g A' ∧ A' ≤ A + 2 ∧ StAt W E ⟨m, o, a, b, e⟩ ∧ StAt W G ⟨0, false, false, false, false⟩ ∧ Keep g (g + 1) w W)
        case first =>
          go_region_with (first | (go_at_call 38; (with_reducible refine (spec_pick g A 9 _ (HS.below (by go_grown)) (by omega) (by omega)).mono ?_); rintro e' wp ⟨v, Ap, rfl, z0, z1, y0, y1, Hp, Kp⟩; have z2 := z1 (by omega); have hXp := (hX.below (by go_grown)).keep Kp (by omega); have hRp := (hR.below (by go_grown)).keep Kp (by omega); have KKp := (KK.thenBelow (by go_grown)).trans Kp; have sp : wr.heap.size ≤ wp.heap.size := Nat.le_trans (by simp) Kp.size; (try (have sp' : wr.heap.size < wp.heap.size := Nat.lt_of_lt_of_le (by first | omega | (simp only [World.size_alloc, World.size_drew]; omega)) Kp.size)); have hXl1 := hXp.lt; have hGl1 := hRp.lt; have p0 := hXp.c0; have p1 := hXp.c1; have p2 := hXp.c2; have p3 := hXp.c3; have p4 := hXp.c4; dsimp only at p0 p1 p2 p3 p4; (try (have q0 : wp.cell? ⟨wr.heap.size, 0, none⟩ = some (.int .i64 0) := (Kp.cellk (by first | omega | (simp only [World.size_alloc, World.size_drew]; omega)) (by omega)).trans (by first | (go_cell; done) | fail))); (try (have qf0 : wp.frozen? ⟨wr.heap.size, 0, none⟩ = false := (Kp.frozenk (by first | omega | (simp only [World.size_alloc, World.size_drew]; omega)) (by omega)).trans (by first | (go_simp; done) | fail))); (try (have q1 : wp.cell? ⟨wr.heap.size, 1, none⟩ = some (.bool false) := (Kp.cellk (by first | omega | (simp only [World.size_alloc, World.size_drew]; omega)) (by omega)).trans (by first | (go_cell; done) | fail))); (try (have qf1 : wp.frozen? ⟨wr.heap.size, 1, none⟩ = false := (Kp.frozenk (by first | omega | (simp only [World.size_alloc, World.size_drew]; omega)) (by omega)).trans (by first | (go_simp; done) | fail))); (try (have q2 : wp.cell? ⟨wr.heap.size, 2, none⟩ = some (.bool false) := (Kp.cellk (by first | omega | (simp only [World.size_alloc, World.size_drew]; omega)) (by omega)).trans (by first | (go_cell; done) | fail))); (try (have qf2 : wp.frozen? ⟨wr.heap.size, 2, none⟩ = false := (Kp.frozenk (by first | omega | (simp only [World.size_alloc, World.size_drew]; omega)) (by omega)).trans (by first | (go_simp; done) | fail))); (try (have q3 : wp.cell? ⟨wr.heap.size, 3, none⟩ = some (.bool false) := (Kp.cellk (by first | omega | (simp only [World.size_alloc, World.size_drew]; omega)) (by omega)).trans (by first | (go_cell; done) | fail))); (try (have qf3 : wp.frozen? ⟨wr.heap.size, 3, none⟩ = false := (Kp.frozenk (by first | omega | (simp only [World.size_alloc, World.size_drew]; omega)) (by omega)).trans (by first | (go_simp; done) | fail))); (try (have q4 : wp.cell? ⟨wr.heap.size, 4, none⟩ = some (.bool false) := (Kp.cellk (by first | omega | (simp only [World.size_alloc, World.size_drew]; omega)) (by omega)).trans (by first | (go_cell; done) | fail))); (try (have qf4 : wp.frozen? ⟨wr.heap.size, 4, none⟩ = false := (Kp.frozenk (by first | omega | (simp only [World.size_alloc, World.size_drew]; omega)) (by omega)).trans (by first | (go_simp; done) | fail)))) | (go_at_call 42; (with_reducible refine (spec_l13Next_some m o a b e _ _ (by first | omega | (rw [IntWalk.i64_in _ (by omega)]; omega)) (by first | omega | (rw [IntWalk.i64_in _ (by omega)]; omega)) m0 m4).mono ?_); rintro e' wn ⟨m1, o1, a1', b1', e1', al, rfl, n0, n1, hbn⟩; have hXn := (hXp.below (by go_grown)).below hbn; have hRn := (hRp.below (by go_grown)).below hbn; have KKn := (KKp.thenBelow (by go_grown)).thenBelow hbn; have Hn := (Hp.below (by go_grown)).below hbn; have sn : wp.heap.size ≤ wn.heap.size := Nat.le_trans (by simp) hbn.size; (try (have qn0 : wn.cell? ⟨wr.heap.size, 0, none⟩ = some (.int .i64 0) := (hbn.cell (p := ⟨wr.heap.size, 0, none⟩) (by first | omega | (simp only [World.size_alloc, World.size_drew]; omega))).trans (by first | (go_cell; done) | fail))); (try (have qnf0 : wn.frozen? ⟨wr.heap.size, 0, none⟩ = false := (hbn.frozen (p := ⟨wr.heap.size, 0, none⟩) (by first | omega | (simp only [World.size_alloc, World.size_drew]; omega))).trans (by first | (go_simp; done) | fail))); (try (have qn1 : wn.cell? ⟨wr.heap.size, 1, none⟩ = some (.bool false) := (hbn.cell (p := ⟨wr.heap.size, 1, none⟩) (by first | omega | (simp only [World.size_alloc, World.size_drew]; omega))).trans (by first | (go_cell; done) | fail))); (try (have qnf1 : wn.frozen? ⟨wr.heap.size, 1, none⟩ = false := (hbn.frozen (p := ⟨wr.heap.size, 1, none⟩) (by first | omega | (simp only [World.size_alloc, World.size_drew]; omega))).trans (by first | (go_simp; done) | fail))); (try (have qn2 : wn.cell? ⟨wr.heap.size, 2, none⟩ = some (.bool false) := (hbn.cell (p := ⟨wr.heap.size, 2, none⟩) (by first | omega | (simp only [World.size_alloc, World.size_drew]; omega))).trans (by first | (go_cell; done) | fail))); (try (have qnf2 : wn.frozen? ⟨wr.heap.size, 2, none⟩ = false := (hbn.frozen (p := ⟨wr.heap.size, 2, none⟩) (by first | omega | (simp only [World.size_alloc, World.size_drew]; omega))).trans (by first | (go_simp; done) | fail))); (try (have qn3 : wn.cell? ⟨wr.heap.size, 3, none⟩ = some (.bool false) := (hbn.cell (p := ⟨wr.heap.size, 3, none⟩) (by first | omega | (simp only [World.size_alloc, World.size_drew]; omega))).trans (by first | (go_cell; done) | fail))); (try (have qnf3 : wn.frozen? ⟨wr.heap.size, 3, none⟩ = false := (hbn.frozen (p := ⟨wr.heap.size, 3, none⟩) (by first | omega | (simp only [World.size_alloc, World.size_drew]; omega))).trans (by first | (go_simp; done) | fail))); (try (have qn4 : wn.cell? ⟨wr.heap.size, 4, none⟩ = some (.bool false) := (hbn.cell (p := ⟨wr.heap.size, 4, none⟩) (by first | omega | (simp only [World.size_alloc, World.size_drew]; omega))).trans (by first | (go_cell; done) | fail))); (try (have qnf4 : wn.frozen? ⟨wr.heap.size, 4, none⟩ = false := (hbn.frozen (p := ⟨wr.heap.size, 4, none⟩) (by first | omega | (simp only [World.size_alloc, World.size_drew]; omega))).trans (by first | (go_simp; done) | fail))); (try (have qm0 : wn.cell? ⟨wp.heap.size, 0, none⟩ = some (.int .i64 0) := (hbn.cell (p := ⟨wp.heap.size, 0, none⟩) (by first | omega | (simp only [World.size_alloc, World.size_drew]; omega))).trans (by first | (go_cell; done) | fail))); (try (have qmf0 : wn.frozen? ⟨wp.heap.size, 0, none⟩ = false := (hbn.frozen (p := ⟨wp.heap.size, 0, none⟩) (by first | omega | (simp only [World.size_alloc, World.size_drew]; omega))).trans (by first | (go_simp; done) | fail))); (try (have qm1 : wn.cell? ⟨wp.heap.size, 1, none⟩ = some (.bool false) := (hbn.cell (p := ⟨wp.heap.size, 1, none⟩) (by first | omega | (simp only [World.size_alloc, World.size_drew]; omega))).trans (by first | (go_cell; done) | fail))); (try (have qmf1 : wn.frozen? ⟨wp.heap.size, 1, none⟩ = false := (hbn.frozen (p := ⟨wp.heap.size, 1, none⟩) (by first | omega | (simp only [World.size_alloc, World.size_drew]; omega))).trans (by first | (go_simp; done) | fail))); (try (have qm2 : wn.cell? ⟨wp.heap.size, 2, none⟩ = some (.bool false) := (hbn.cell (p := ⟨wp.heap.size, 2, none⟩) (by first | omega | (simp only [World.size_alloc, World.size_drew]; omega))).trans (by first | (go_cell; done) | fail))); (try (have qmf2 : wn.frozen? ⟨wp.heap.size, 2, none⟩ = false := (hbn.frozen (p := ⟨wp.heap.size, 2, none⟩) (by first | omega | (simp only [World.size_alloc, World.size_drew]; omega))).trans (by first | (go_simp; done) | fail))); (try (have qm3 : wn.cell? ⟨wp.heap.size, 3, none⟩ = some (.bool false) := (hbn.cell (p := ⟨wp.heap.size, 3, none⟩) (by first | omega | (simp only [World.size_alloc, World.size_drew]; omega))).trans (by first | (go_cell; done) | fail))); (try (have qmf3 : wn.frozen? ⟨wp.heap.size, 3, none⟩ = false := (hbn.frozen (p := ⟨wp.heap.size, 3, none⟩) (by first | omega | (simp only [World.size_alloc, World.size_drew]; omega))).trans (by first | (go_simp; done) | fail))); (try (have qm4 : wn.cell? ⟨wp.heap.size, 4, none⟩ = some (.bool false) := (hbn.cell (p := ⟨wp.heap.size, 4, none⟩) (by first | omega | (simp only [World.size_alloc, World.size_drew]; omega))).trans (by first | (go_cell; done) | fail))); (try (have qmf4 : wn.frozen? ⟨wp.heap.size, 4, none⟩ = false := (hbn.frozen (p := ⟨wp.heap.size, 4, none⟩) (by first | omega | (simp only [World.size_alloc, World.size_drew]; omega))).trans (by first | (go_simp; done) | fail)))))
          all_goals
            go_wp2_with fail
            go_meet
            refine ⟨_, m1, o1, a1', b1', e1', al, Ap, rfl, rfl, ?_, ?_, ?_, ?_, ?_, ?_, n0, n1, ?_, by omega, ?_, ?_, ?_⟩
            · omega
            · first | (with_reducible refine cell_off (cell_off (cell_off (cell_off (cell_same (x := .int .i64 0) ?_) (by decide)) (by decide)) (by decide)) (by decide); go_simp; done) | (go_simp; done) | (go_cell; done)
            · first | (with_reducible refine cell_off (cell_off (cell_off (cell_same (x := .bool false) (cell_off ?_ (by decide))) (by decide)) (by decide)) (by decide); go_simp; done) | (go_simp; done) | (go_cell; done)
            · first | (with_reducible refine cell_off (cell_off (cell_same (x := .bool false) (cell_off (cell_off ?_ (by decide)) (by decide))) (by decide)) (by decide); go_simp; done) | (go_simp; done) | (go_cell; done)
            · first | (with_reducible refine cell_off (cell_same (x := .bool false) (cell_off (cell_off (cell_off ?_ (by decide)) (by decide)) (by decide))) (by decide); go_simp; done) | (go_simp; done) | (go_cell; done)
            · first | (with_reducible refine cell_same (x := .bool false) (cell_off (cell_off (cell_off (cell_off ?_ (by decide)) (by decide)) (by decide)) (by decide)); go_simp; done) | (go_simp; done) | (go_cell; done)
            · first | (with_reducible exact Hn.putUp (by omega)) | exact Hn.below (by go_grown)
            · first | (with_reducible exact hXn.putOther (by omega)) | exact hXn.below (by go_grown)
            · first | (with_reducible exact hRn.putOther (by omega)) | exact hRn.below (by go_grown)
            · first | (with_reducible exact KKn.putFresh (by omega)) | exact KKn.thenBelow (by go_grown)
        case rest =>
          obtain ⟨h, m', o', a', b', e', al, A', rfl, rfl, hE', t0, t1, t2, t3, t4, n0, n1, H9, hA', hX9, hR9, KK9⟩ := hcut
          have x0 := hX9.c0
          have x1 := hX9.c1
          have x2 := hX9.c2
          have x3 := hX9.c3
          have x4 := hX9.c4
          have f0 := hX9.fr (show 0 < 5 by decide)
          have f1 := hX9.fr (show 1 < 5 by decide)
          have f2 := hX9.fr (show 2 < 5 by decide)
          have f3 := hX9.fr (show 3 < 5 by decide)
          have f4 := hX9.fr (show 4 < 5 by decide)
          dsimp only at x0 x1 x2 x3 x4
          clear p0 p1 p2 p3 p4 hX hR HS KK hXl
          cases al
          · go_wp2
            go_roundw
            case rel => exact ⟨k - 1, m, o, a, b, e, A', by omega, by congr 1; omega, H9, by omega, hX9, m0, m4, hR9, KK9⟩
            case measure => simp [intOf]; omega
          · go_wp2
            go_roundw
            case rel => exact ⟨k - 1, m', o', a', b', e', A', by omega, by congr 1; omega, H9.putUp (by omega), by omega, hX9.put m' o' a' b' e', n0, n1, hR9.putOther (by omega), KK9.putFresh (by omega)⟩
            case measure => simp [intOf]; omega
      · obtain rfl : k = 0 := by omega
        have r0 := hR.c0
        have r1 := hR.c1
        have r2 := hR.c2
        have r3 := hR.c3
        have r4 := hR.c4
        have k0 := hR.fr (show 0 < 5 by decide)
        have k1 := hR.fr (show 1 < 5 by decide)
        have k2 := hR.fr (show 2 < 5 by decide)
        have k3 := hR.fr (show 3 < 5 by decide)
        have k4 := hR.fr (show 4 < 5 by decide)
        dsimp only at r0 r1 r2 r3 r4
        go_wp2
        refine bodyPost_ret (by simp [results, Tryz.results24, go_sem, *]; try rfl) rfl ?_
        exact ⟨m, o, a, b, e, rfl, m0, m4, KK.putFresh (by omega)⟩

theorem spec_R8Control (a : Option Addr) (n c : Nat) (w : World) (h : BytesAt w a n) (hn : n ≤ 1048576) :
    Calls Tryz.prog 8 #[.slice a n c] w fun e' w' => ∃ m o a b e, e' = .returned (.agg #[.int .i64 m, .bool o, .bool a, .bool b, .bool e]) ∧ 0 ≤ m ∧ m ≤ 4 ∧ Below w.heap.size w w' := by
  have H := Lib.hid h
  clear h
  go_enter Tryz.func8, Tryz.ntmps8
  go_wp2_with fail
  have hR := StAt.made w 35 0 false false false false
  have hB0 : Below w.heap.size w (w.alloc (Obj.cells #[.int .i64 0, .bool false, .bool false, .bool false, .bool false] 35)) := by go_grown
  refine (spec_l00From a n c _ (H.out.below (by go_grown)) hn).mono ?_
  rintro e w1 ⟨g, rfl, hg, HS, hb⟩
  have hR1 := hR.below hb
  have hg2 : w.heap.size < g := by simp at hg; omega
  have hB1 : Below w.heap.size w w1 := hB0.trans (hb.mono (by simp))
  have HS2 := Lib.hid HS
  clear hb HS hg hR hB0
  go_wp2_with fail
  refine (spec_l13Draw g _ HS2.out).mono ?_
  rintro e w2 ⟨m, o, a1, b, e4, rfl, m0, m1, K⟩
  have hR2 := hR1.keep K (by omega)
  have hB2 : Below w.heap.size w w2 := hB1.trans (K.below (by omega) hB1.size)
  have r0 := hR2.c0
  have r1 := hR2.c1
  have r2 := hR2.c2
  have r3 := hR2.c3
  have r4 := hR2.c4
  have k0 := hR2.fr (show 0 < 5 by decide)
  have k1 := hR2.fr (show 1 < 5 by decide)
  have k2 := hR2.fr (show 2 < 5 by decide)
  have k3 := hR2.fr (show 3 < 5 by decide)
  have k4 := hR2.fr (show 4 < 5 by decide)
  dsimp only at r0 r1 r2 r3 r4
  clear hR1 K
  go_wp2_with fail
  refine bodyPost_ret (by simp [results, Tryz.results8, go_sem, *]; try rfl) rfl ?_
  exact ⟨m, o, a1, b, e4, rfl, m0, m1, hB2.trans ((keep_put w2 w.heap.size _ _ _ _ _).below (Nat.le_refl _) hB2.size)⟩

end Go.Proofs.YteccpafoojkmjaaGreatDoor
/-
  Contracts: brakes read by the program; the walks of the laws.
-/
namespace Go.Proofs.YteccpafoojkmjaaGreatDoor
open Go.RowKit
set_option linter.unusedVariables false
set_option linter.unusedSimpArgs false


set_option maxHeartbeats 4000000 in
theorem impl_ReadBrake (s : ByteArray) (i j : Int) (ok : Bool) (w : World) (hs : s.size ≤ 1048576) (hp : BrakeIs s i j ok) (hT : Tabs w) (hM : MaxAt w) :
    Calls Tryz.prog 13 #[.string s] w fun e w' => e = .returned (.tuple #[.agg #[.int .i64 i, .int .i64 j], .bool ok]) ∧ Below w.heap.size w w' := by
  have hcs := cut_size s 43
  have kc := fun W h => strings_Cut_c s 43 W hs h
  have kA := fun W h => impl_ReadDecimal (cutA s 43) W (by omega) h
  have kB := fun W h => impl_ReadDecimal (cutB s 43) W (by omega) h
  have kt := fun W h => impl_BrakeText (numR (cutA s 43)) (numR (cutB s 43)) W h
  have kv := fun W => impl_ValidBrake (numR (cutA s 43)) (numR (cutB s 43)) W
  have HY := Lib.hid (fun h0 h => brake_impl hp h0 h)
  have HN := Lib.hid (fun h => brake_impl_no hp h)
  clear hp hcs
  cases he : validBrake (numR (cutA s 43)) (numR (cutB s 43))
  · obtain ⟨rfl, rfl, rfl⟩ := HN.out (.inl he)
    rw [he] at kv
    clear he
    clear HY HN
    generalize numR (cutA s 43) = P at *
    generalize numR (cutB s 43) = Q at *
    generalize numOk (cutA s 43) = OP at *
    generalize numOk (cutB s 43) = OQ at *
    generalize cutA s 43 = S1 at *
    generalize cutB s 43 = S2 at *
    go_enter Tryz.func13, Tryz.ntmps13
    go_wp2_with fail
    with_reducible refine (kc _ (hM.below (by go_grown))).mono ?_
    rintro e w1 ⟨⟨bo, rfl⟩, hb1⟩
    have q10 : w1.cell? ⟨w.heap.size, 0, none⟩ = some (.int .i64 0) := (hb1.cell (p := ⟨w.heap.size, 0, none⟩) (by first | omega | (simp; done) | (simp [World.setCell]; done) | (simp; omega) | (simp [World.setCell]; omega))).trans (by go_cell)
    have g10 : w1.frozen? ⟨w.heap.size, 0, none⟩ = false := (hb1.frozen (p := ⟨w.heap.size, 0, none⟩) (by first | omega | (simp; done) | (simp [World.setCell]; done) | (simp; omega) | (simp [World.setCell]; omega))).trans (by go_simp)
    have q11 : w1.cell? ⟨w.heap.size, 1, none⟩ = some (.int .i64 0) := (hb1.cell (p := ⟨w.heap.size, 1, none⟩) (by first | omega | (simp; done) | (simp [World.setCell]; done) | (simp; omega) | (simp [World.setCell]; omega))).trans (by go_cell)
    have g11 : w1.frozen? ⟨w.heap.size, 1, none⟩ = false := (hb1.frozen (p := ⟨w.heap.size, 1, none⟩) (by first | omega | (simp; done) | (simp [World.setCell]; done) | (simp; omega) | (simp [World.setCell]; omega))).trans (by go_simp)
    have z0 : w.heap.size < w1.heap.size := Nat.lt_of_lt_of_le (by simp) hb1.size
    have hB1 : Below w.heap.size w w1 := Below.trans (by go_grown) (hb1.mono (by go_size))
    clear hb1
    go_wp2_with fail
    with_reducible refine (kA _ (hT.below (by first | go_grown | (repeat (first | exact hB1 | refine Below.alloc ?_ (by simp [World.setCell]; omega) _ | refine below_set ?_ (by omega)))))).mono ?_
    rintro e w2 ⟨rfl, hb2⟩
    have z1 : w1.heap.size < w2.heap.size := Nat.lt_of_lt_of_le (by simp) hb2.size
    have z2 : w.heap.size < w2.heap.size := by omega
    have q20 : w2.cell? ⟨w.heap.size, 0, none⟩ = some (.int .i64 0) := (hb2.cell (p := ⟨w.heap.size, 0, none⟩) (by first | omega | (simp; done) | (simp [World.setCell]; done) | (simp; omega) | (simp [World.setCell]; omega))).trans (by go_cell)
    have g20 : w2.frozen? ⟨w.heap.size, 0, none⟩ = false := (hb2.frozen (p := ⟨w.heap.size, 0, none⟩) (by first | omega | (simp; done) | (simp [World.setCell]; done) | (simp; omega) | (simp [World.setCell]; omega))).trans (by go_simp)
    have q21 : w2.cell? ⟨w.heap.size, 1, none⟩ = some (.int .i64 0) := (hb2.cell (p := ⟨w.heap.size, 1, none⟩) (by first | omega | (simp; done) | (simp [World.setCell]; done) | (simp; omega) | (simp [World.setCell]; omega))).trans (by go_cell)
    have g21 : w2.frozen? ⟨w.heap.size, 1, none⟩ = false := (hb2.frozen (p := ⟨w.heap.size, 1, none⟩) (by first | omega | (simp; done) | (simp [World.setCell]; done) | (simp; omega) | (simp [World.setCell]; omega))).trans (by go_simp)
    have q22 : w2.cell? ⟨w1.heap.size, 0, none⟩ = some (.int .i64 0) := (hb2.cell (p := ⟨w1.heap.size, 0, none⟩) (by first | omega | (simp; done) | (simp [World.setCell]; done) | (simp; omega) | (simp [World.setCell]; omega))).trans (by go_cell)
    have g22 : w2.frozen? ⟨w1.heap.size, 0, none⟩ = false := (hb2.frozen (p := ⟨w1.heap.size, 0, none⟩) (by first | omega | (simp; done) | (simp [World.setCell]; done) | (simp; omega) | (simp [World.setCell]; omega))).trans (by go_simp)
    have q23 : w2.cell? ⟨w1.heap.size, 1, none⟩ = some (.int .i64 0) := (hb2.cell (p := ⟨w1.heap.size, 1, none⟩) (by first | omega | (simp; done) | (simp [World.setCell]; done) | (simp; omega) | (simp [World.setCell]; omega))).trans (by go_cell)
    have g23 : w2.frozen? ⟨w1.heap.size, 1, none⟩ = false := (hb2.frozen (p := ⟨w1.heap.size, 1, none⟩) (by first | omega | (simp; done) | (simp [World.setCell]; done) | (simp; omega) | (simp [World.setCell]; omega))).trans (by go_simp)
    have hB2 : Below w.heap.size w w2 := Below.trans (by first | go_grown | (repeat (first | exact hB1 | refine Below.alloc ?_ (by simp [World.setCell]; omega) _ | refine below_set ?_ (by omega)))) (hb2.mono (by go_size))
    clear hb2 q10 q11 g10 g11
    go_wp2_with fail
    with_reducible refine (kB _ (hT.below (by first | go_grown | (repeat (first | exact hB2 | refine Below.alloc ?_ (by simp [World.setCell]; omega) _ | refine below_set ?_ (by omega)))))).mono ?_
    rintro e w3 ⟨rfl, hb3⟩
    have z3 : w1.heap.size < w3.heap.size := Nat.lt_of_lt_of_le (by first | omega | (simp; done) | (simp [World.setCell]; done) | (simp; omega) | (simp [World.setCell]; omega)) hb3.size
    have z4 : w.heap.size < w3.heap.size := by omega
    have q30 : w3.cell? ⟨w.heap.size, 0, none⟩ = some (.int .i64 0) := (hb3.cell (p := ⟨w.heap.size, 0, none⟩) (by first | omega | (simp; done) | (simp [World.setCell]; done) | (simp; omega) | (simp [World.setCell]; omega))).trans (by go_cell)
    have g30 : w3.frozen? ⟨w.heap.size, 0, none⟩ = false := (hb3.frozen (p := ⟨w.heap.size, 0, none⟩) (by first | omega | (simp; done) | (simp [World.setCell]; done) | (simp; omega) | (simp [World.setCell]; omega))).trans (by go_simp)
    have q31 : w3.cell? ⟨w.heap.size, 1, none⟩ = some (.int .i64 0) := (hb3.cell (p := ⟨w.heap.size, 1, none⟩) (by first | omega | (simp; done) | (simp [World.setCell]; done) | (simp; omega) | (simp [World.setCell]; omega))).trans (by go_cell)
    have g31 : w3.frozen? ⟨w.heap.size, 1, none⟩ = false := (hb3.frozen (p := ⟨w.heap.size, 1, none⟩) (by first | omega | (simp; done) | (simp [World.setCell]; done) | (simp; omega) | (simp [World.setCell]; omega))).trans (by go_simp)
    have q32 : w3.cell? ⟨w1.heap.size, 0, none⟩ = some (.int .i64 P) := (hb3.cell (p := ⟨w1.heap.size, 0, none⟩) (by first | omega | (simp; done) | (simp [World.setCell]; done) | (simp; omega) | (simp [World.setCell]; omega))).trans (by go_cell)
    have g32 : w3.frozen? ⟨w1.heap.size, 0, none⟩ = false := (hb3.frozen (p := ⟨w1.heap.size, 0, none⟩) (by first | omega | (simp; done) | (simp [World.setCell]; done) | (simp; omega) | (simp [World.setCell]; omega))).trans (by go_simp)
    have q33 : w3.cell? ⟨w1.heap.size, 1, none⟩ = some (.int .i64 0) := (hb3.cell (p := ⟨w1.heap.size, 1, none⟩) (by first | omega | (simp; done) | (simp [World.setCell]; done) | (simp; omega) | (simp [World.setCell]; omega))).trans (by go_cell)
    have g33 : w3.frozen? ⟨w1.heap.size, 1, none⟩ = false := (hb3.frozen (p := ⟨w1.heap.size, 1, none⟩) (by first | omega | (simp; done) | (simp [World.setCell]; done) | (simp; omega) | (simp [World.setCell]; omega))).trans (by go_simp)
    have hB3 : Below w.heap.size w w3 := Below.trans (by first | go_grown | (repeat (first | exact hB2 | refine Below.alloc ?_ (by simp [World.setCell]; omega) _ | refine below_set ?_ (by omega)))) (hb3.mono (by go_size))
    clear hb3 q20 g20 q21 g21 q22 g22 q23 g23
    go_wp2_with fail
    with_reducible refine (kv _).mono ?_
    rintro e w4 ⟨rfl, hb4⟩
    have za4 : w1.heap.size < w4.heap.size := Nat.lt_of_lt_of_le (by first | omega | (simp; done) | (simp [World.setCell]; done) | (simp; omega) | (simp [World.setCell]; omega)) hb4.size
    have zb4 : w.heap.size < w4.heap.size := by omega
    have q40 : w4.cell? ⟨w.heap.size, 0, none⟩ = some (.int .i64 0) := (hb4.cell (p := ⟨w.heap.size, 0, none⟩) (by first | omega | (simp; done) | (simp [World.setCell]; done) | (simp; omega) | (simp [World.setCell]; omega))).trans (by go_cell)
    have g40 : w4.frozen? ⟨w.heap.size, 0, none⟩ = false := (hb4.frozen (p := ⟨w.heap.size, 0, none⟩) (by first | omega | (simp; done) | (simp [World.setCell]; done) | (simp; omega) | (simp [World.setCell]; omega))).trans (by go_simp)
    have q41 : w4.cell? ⟨w.heap.size, 1, none⟩ = some (.int .i64 0) := (hb4.cell (p := ⟨w.heap.size, 1, none⟩) (by first | omega | (simp; done) | (simp [World.setCell]; done) | (simp; omega) | (simp [World.setCell]; omega))).trans (by go_cell)
    have g41 : w4.frozen? ⟨w.heap.size, 1, none⟩ = false := (hb4.frozen (p := ⟨w.heap.size, 1, none⟩) (by first | omega | (simp; done) | (simp [World.setCell]; done) | (simp; omega) | (simp [World.setCell]; omega))).trans (by go_simp)
    have q42 : w4.cell? ⟨w1.heap.size, 0, none⟩ = some (.int .i64 P) := (hb4.cell (p := ⟨w1.heap.size, 0, none⟩) (by first | omega | (simp; done) | (simp [World.setCell]; done) | (simp; omega) | (simp [World.setCell]; omega))).trans (by go_cell)
    have g42 : w4.frozen? ⟨w1.heap.size, 0, none⟩ = false := (hb4.frozen (p := ⟨w1.heap.size, 0, none⟩) (by first | omega | (simp; done) | (simp [World.setCell]; done) | (simp; omega) | (simp [World.setCell]; omega))).trans (by go_simp)
    have q43 : w4.cell? ⟨w1.heap.size, 1, none⟩ = some (.int .i64 Q) := (hb4.cell (p := ⟨w1.heap.size, 1, none⟩) (by first | omega | (simp; done) | (simp [World.setCell]; done) | (simp; omega) | (simp [World.setCell]; omega))).trans (by go_cell)
    have g43 : w4.frozen? ⟨w1.heap.size, 1, none⟩ = false := (hb4.frozen (p := ⟨w1.heap.size, 1, none⟩) (by first | omega | (simp; done) | (simp [World.setCell]; done) | (simp; omega) | (simp [World.setCell]; omega))).trans (by go_simp)
    have hB4 : Below w.heap.size w w4 := Below.trans (by first | go_grown | (repeat (first | exact hB3 | refine Below.alloc ?_ (by simp [World.setCell]; omega) _ | refine below_set ?_ (by omega)))) (hb4.mono (by go_size))
    clear hb4
    go_wp2_with fail
    refine bodyPost_ret (by simp [results, Tryz.results13, go_sem, *]; try rfl) rfl ?_
    first
      | exact ⟨rfl, (by first | go_grown | (repeat (first | exact hB5 | refine Below.alloc ?_ (by simp [World.setCell]; omega) _ | refine below_set ?_ (by omega))))⟩
      | exact ⟨rfl, (by first | go_grown | (repeat (first | exact hB4 | refine Below.alloc ?_ (by simp [World.setCell]; omega) _ | refine below_set ?_ (by omega))))⟩
      | exact ⟨rfl, (by first | go_grown | (repeat (first | exact hB3 | refine Below.alloc ?_ (by simp [World.setCell]; omega) _ | refine below_set ?_ (by omega))))⟩
  · rw [he] at kv
    by_cases ht : brakeText (numR (cutA s 43)) (numR (cutB s 43)) = s
    · have he3 := ba_eq ht
      obtain ⟨rfl, rfl, rfl⟩ := HY.out he ht
      generalize brakeText (numR (cutA s 43)) (numR (cutB s 43)) = T at *
      clear ht he
      clear HY HN
      generalize numR (cutA s 43) = P at *
      generalize numR (cutB s 43) = Q at *
      generalize numOk (cutA s 43) = OP at *
      generalize numOk (cutB s 43) = OQ at *
      generalize cutA s 43 = S1 at *
      generalize cutB s 43 = S2 at *
      go_enter Tryz.func13, Tryz.ntmps13
      go_wp2_with fail
      with_reducible refine (kc _ (hM.below (by go_grown))).mono ?_
      rintro e w1 ⟨⟨bo, rfl⟩, hb1⟩
      have q10 : w1.cell? ⟨w.heap.size, 0, none⟩ = some (.int .i64 0) := (hb1.cell (p := ⟨w.heap.size, 0, none⟩) (by first | omega | (simp; done) | (simp [World.setCell]; done) | (simp; omega) | (simp [World.setCell]; omega))).trans (by go_cell)
      have g10 : w1.frozen? ⟨w.heap.size, 0, none⟩ = false := (hb1.frozen (p := ⟨w.heap.size, 0, none⟩) (by first | omega | (simp; done) | (simp [World.setCell]; done) | (simp; omega) | (simp [World.setCell]; omega))).trans (by go_simp)
      have q11 : w1.cell? ⟨w.heap.size, 1, none⟩ = some (.int .i64 0) := (hb1.cell (p := ⟨w.heap.size, 1, none⟩) (by first | omega | (simp; done) | (simp [World.setCell]; done) | (simp; omega) | (simp [World.setCell]; omega))).trans (by go_cell)
      have g11 : w1.frozen? ⟨w.heap.size, 1, none⟩ = false := (hb1.frozen (p := ⟨w.heap.size, 1, none⟩) (by first | omega | (simp; done) | (simp [World.setCell]; done) | (simp; omega) | (simp [World.setCell]; omega))).trans (by go_simp)
      have z0 : w.heap.size < w1.heap.size := Nat.lt_of_lt_of_le (by simp) hb1.size
      have hB1 : Below w.heap.size w w1 := Below.trans (by go_grown) (hb1.mono (by go_size))
      clear hb1
      go_wp2_with fail
      with_reducible refine (kA _ (hT.below (by first | go_grown | (repeat (first | exact hB1 | refine Below.alloc ?_ (by simp [World.setCell]; omega) _ | refine below_set ?_ (by omega)))))).mono ?_
      rintro e w2 ⟨rfl, hb2⟩
      have z1 : w1.heap.size < w2.heap.size := Nat.lt_of_lt_of_le (by simp) hb2.size
      have z2 : w.heap.size < w2.heap.size := by omega
      have q20 : w2.cell? ⟨w.heap.size, 0, none⟩ = some (.int .i64 0) := (hb2.cell (p := ⟨w.heap.size, 0, none⟩) (by first | omega | (simp; done) | (simp [World.setCell]; done) | (simp; omega) | (simp [World.setCell]; omega))).trans (by go_cell)
      have g20 : w2.frozen? ⟨w.heap.size, 0, none⟩ = false := (hb2.frozen (p := ⟨w.heap.size, 0, none⟩) (by first | omega | (simp; done) | (simp [World.setCell]; done) | (simp; omega) | (simp [World.setCell]; omega))).trans (by go_simp)
      have q21 : w2.cell? ⟨w.heap.size, 1, none⟩ = some (.int .i64 0) := (hb2.cell (p := ⟨w.heap.size, 1, none⟩) (by first | omega | (simp; done) | (simp [World.setCell]; done) | (simp; omega) | (simp [World.setCell]; omega))).trans (by go_cell)
      have g21 : w2.frozen? ⟨w.heap.size, 1, none⟩ = false := (hb2.frozen (p := ⟨w.heap.size, 1, none⟩) (by first | omega | (simp; done) | (simp [World.setCell]; done) | (simp; omega) | (simp [World.setCell]; omega))).trans (by go_simp)
      have q22 : w2.cell? ⟨w1.heap.size, 0, none⟩ = some (.int .i64 0) := (hb2.cell (p := ⟨w1.heap.size, 0, none⟩) (by first | omega | (simp; done) | (simp [World.setCell]; done) | (simp; omega) | (simp [World.setCell]; omega))).trans (by go_cell)
      have g22 : w2.frozen? ⟨w1.heap.size, 0, none⟩ = false := (hb2.frozen (p := ⟨w1.heap.size, 0, none⟩) (by first | omega | (simp; done) | (simp [World.setCell]; done) | (simp; omega) | (simp [World.setCell]; omega))).trans (by go_simp)
      have q23 : w2.cell? ⟨w1.heap.size, 1, none⟩ = some (.int .i64 0) := (hb2.cell (p := ⟨w1.heap.size, 1, none⟩) (by first | omega | (simp; done) | (simp [World.setCell]; done) | (simp; omega) | (simp [World.setCell]; omega))).trans (by go_cell)
      have g23 : w2.frozen? ⟨w1.heap.size, 1, none⟩ = false := (hb2.frozen (p := ⟨w1.heap.size, 1, none⟩) (by first | omega | (simp; done) | (simp [World.setCell]; done) | (simp; omega) | (simp [World.setCell]; omega))).trans (by go_simp)
      have hB2 : Below w.heap.size w w2 := Below.trans (by first | go_grown | (repeat (first | exact hB1 | refine Below.alloc ?_ (by simp [World.setCell]; omega) _ | refine below_set ?_ (by omega)))) (hb2.mono (by go_size))
      clear hb2 q10 q11 g10 g11
      go_wp2_with fail
      with_reducible refine (kB _ (hT.below (by first | go_grown | (repeat (first | exact hB2 | refine Below.alloc ?_ (by simp [World.setCell]; omega) _ | refine below_set ?_ (by omega)))))).mono ?_
      rintro e w3 ⟨rfl, hb3⟩
      have z3 : w1.heap.size < w3.heap.size := Nat.lt_of_lt_of_le (by first | omega | (simp; done) | (simp [World.setCell]; done) | (simp; omega) | (simp [World.setCell]; omega)) hb3.size
      have z4 : w.heap.size < w3.heap.size := by omega
      have q30 : w3.cell? ⟨w.heap.size, 0, none⟩ = some (.int .i64 0) := (hb3.cell (p := ⟨w.heap.size, 0, none⟩) (by first | omega | (simp; done) | (simp [World.setCell]; done) | (simp; omega) | (simp [World.setCell]; omega))).trans (by go_cell)
      have g30 : w3.frozen? ⟨w.heap.size, 0, none⟩ = false := (hb3.frozen (p := ⟨w.heap.size, 0, none⟩) (by first | omega | (simp; done) | (simp [World.setCell]; done) | (simp; omega) | (simp [World.setCell]; omega))).trans (by go_simp)
      have q31 : w3.cell? ⟨w.heap.size, 1, none⟩ = some (.int .i64 0) := (hb3.cell (p := ⟨w.heap.size, 1, none⟩) (by first | omega | (simp; done) | (simp [World.setCell]; done) | (simp; omega) | (simp [World.setCell]; omega))).trans (by go_cell)
      have g31 : w3.frozen? ⟨w.heap.size, 1, none⟩ = false := (hb3.frozen (p := ⟨w.heap.size, 1, none⟩) (by first | omega | (simp; done) | (simp [World.setCell]; done) | (simp; omega) | (simp [World.setCell]; omega))).trans (by go_simp)
      have q32 : w3.cell? ⟨w1.heap.size, 0, none⟩ = some (.int .i64 P) := (hb3.cell (p := ⟨w1.heap.size, 0, none⟩) (by first | omega | (simp; done) | (simp [World.setCell]; done) | (simp; omega) | (simp [World.setCell]; omega))).trans (by go_cell)
      have g32 : w3.frozen? ⟨w1.heap.size, 0, none⟩ = false := (hb3.frozen (p := ⟨w1.heap.size, 0, none⟩) (by first | omega | (simp; done) | (simp [World.setCell]; done) | (simp; omega) | (simp [World.setCell]; omega))).trans (by go_simp)
      have q33 : w3.cell? ⟨w1.heap.size, 1, none⟩ = some (.int .i64 0) := (hb3.cell (p := ⟨w1.heap.size, 1, none⟩) (by first | omega | (simp; done) | (simp [World.setCell]; done) | (simp; omega) | (simp [World.setCell]; omega))).trans (by go_cell)
      have g33 : w3.frozen? ⟨w1.heap.size, 1, none⟩ = false := (hb3.frozen (p := ⟨w1.heap.size, 1, none⟩) (by first | omega | (simp; done) | (simp [World.setCell]; done) | (simp; omega) | (simp [World.setCell]; omega))).trans (by go_simp)
      have hB3 : Below w.heap.size w w3 := Below.trans (by first | go_grown | (repeat (first | exact hB2 | refine Below.alloc ?_ (by simp [World.setCell]; omega) _ | refine below_set ?_ (by omega)))) (hb3.mono (by go_size))
      clear hb3 q20 g20 q21 g21 q22 g22 q23 g23
      go_wp2_with fail
      with_reducible refine (kv _).mono ?_
      rintro e w4 ⟨rfl, hb4⟩
      have za4 : w1.heap.size < w4.heap.size := Nat.lt_of_lt_of_le (by first | omega | (simp; done) | (simp [World.setCell]; done) | (simp; omega) | (simp [World.setCell]; omega)) hb4.size
      have zb4 : w.heap.size < w4.heap.size := by omega
      have q40 : w4.cell? ⟨w.heap.size, 0, none⟩ = some (.int .i64 0) := (hb4.cell (p := ⟨w.heap.size, 0, none⟩) (by first | omega | (simp; done) | (simp [World.setCell]; done) | (simp; omega) | (simp [World.setCell]; omega))).trans (by go_cell)
      have g40 : w4.frozen? ⟨w.heap.size, 0, none⟩ = false := (hb4.frozen (p := ⟨w.heap.size, 0, none⟩) (by first | omega | (simp; done) | (simp [World.setCell]; done) | (simp; omega) | (simp [World.setCell]; omega))).trans (by go_simp)
      have q41 : w4.cell? ⟨w.heap.size, 1, none⟩ = some (.int .i64 0) := (hb4.cell (p := ⟨w.heap.size, 1, none⟩) (by first | omega | (simp; done) | (simp [World.setCell]; done) | (simp; omega) | (simp [World.setCell]; omega))).trans (by go_cell)
      have g41 : w4.frozen? ⟨w.heap.size, 1, none⟩ = false := (hb4.frozen (p := ⟨w.heap.size, 1, none⟩) (by first | omega | (simp; done) | (simp [World.setCell]; done) | (simp; omega) | (simp [World.setCell]; omega))).trans (by go_simp)
      have q42 : w4.cell? ⟨w1.heap.size, 0, none⟩ = some (.int .i64 P) := (hb4.cell (p := ⟨w1.heap.size, 0, none⟩) (by first | omega | (simp; done) | (simp [World.setCell]; done) | (simp; omega) | (simp [World.setCell]; omega))).trans (by go_cell)
      have g42 : w4.frozen? ⟨w1.heap.size, 0, none⟩ = false := (hb4.frozen (p := ⟨w1.heap.size, 0, none⟩) (by first | omega | (simp; done) | (simp [World.setCell]; done) | (simp; omega) | (simp [World.setCell]; omega))).trans (by go_simp)
      have q43 : w4.cell? ⟨w1.heap.size, 1, none⟩ = some (.int .i64 Q) := (hb4.cell (p := ⟨w1.heap.size, 1, none⟩) (by first | omega | (simp; done) | (simp [World.setCell]; done) | (simp; omega) | (simp [World.setCell]; omega))).trans (by go_cell)
      have g43 : w4.frozen? ⟨w1.heap.size, 1, none⟩ = false := (hb4.frozen (p := ⟨w1.heap.size, 1, none⟩) (by first | omega | (simp; done) | (simp [World.setCell]; done) | (simp; omega) | (simp [World.setCell]; omega))).trans (by go_simp)
      have hB4 : Below w.heap.size w w4 := Below.trans (by first | go_grown | (repeat (first | exact hB3 | refine Below.alloc ?_ (by simp [World.setCell]; omega) _ | refine below_set ?_ (by omega)))) (hb4.mono (by go_size))
      clear hb4
      go_wp2_with fail
      with_reducible refine (kt _ (hT.below (by first | go_grown | (repeat (first | exact hB4 | refine Below.alloc ?_ (by simp [World.setCell]; omega) _ | refine below_set ?_ (by omega))))).pow).mono ?_
      rintro e w5 ⟨rfl, hb5⟩
      have za5 : w1.heap.size < w5.heap.size := Nat.lt_of_lt_of_le (by first | omega | (simp; done) | (simp [World.setCell]; done) | (simp; omega) | (simp [World.setCell]; omega)) hb5.size
      have zb5 : w.heap.size < w5.heap.size := by omega
      have q50 : w5.cell? ⟨w.heap.size, 0, none⟩ = some (.int .i64 0) := (hb5.cell (p := ⟨w.heap.size, 0, none⟩) (by first | omega | (simp; done) | (simp [World.setCell]; done) | (simp; omega) | (simp [World.setCell]; omega))).trans (by go_cell)
      have g50 : w5.frozen? ⟨w.heap.size, 0, none⟩ = false := (hb5.frozen (p := ⟨w.heap.size, 0, none⟩) (by first | omega | (simp; done) | (simp [World.setCell]; done) | (simp; omega) | (simp [World.setCell]; omega))).trans (by go_simp)
      have q51 : w5.cell? ⟨w.heap.size, 1, none⟩ = some (.int .i64 0) := (hb5.cell (p := ⟨w.heap.size, 1, none⟩) (by first | omega | (simp; done) | (simp [World.setCell]; done) | (simp; omega) | (simp [World.setCell]; omega))).trans (by go_cell)
      have g51 : w5.frozen? ⟨w.heap.size, 1, none⟩ = false := (hb5.frozen (p := ⟨w.heap.size, 1, none⟩) (by first | omega | (simp; done) | (simp [World.setCell]; done) | (simp; omega) | (simp [World.setCell]; omega))).trans (by go_simp)
      have q52 : w5.cell? ⟨w1.heap.size, 0, none⟩ = some (.int .i64 P) := (hb5.cell (p := ⟨w1.heap.size, 0, none⟩) (by first | omega | (simp; done) | (simp [World.setCell]; done) | (simp; omega) | (simp [World.setCell]; omega))).trans (by go_cell)
      have g52 : w5.frozen? ⟨w1.heap.size, 0, none⟩ = false := (hb5.frozen (p := ⟨w1.heap.size, 0, none⟩) (by first | omega | (simp; done) | (simp [World.setCell]; done) | (simp; omega) | (simp [World.setCell]; omega))).trans (by go_simp)
      have q53 : w5.cell? ⟨w1.heap.size, 1, none⟩ = some (.int .i64 Q) := (hb5.cell (p := ⟨w1.heap.size, 1, none⟩) (by first | omega | (simp; done) | (simp [World.setCell]; done) | (simp; omega) | (simp [World.setCell]; omega))).trans (by go_cell)
      have g53 : w5.frozen? ⟨w1.heap.size, 1, none⟩ = false := (hb5.frozen (p := ⟨w1.heap.size, 1, none⟩) (by first | omega | (simp; done) | (simp [World.setCell]; done) | (simp; omega) | (simp [World.setCell]; omega))).trans (by go_simp)
      have hB5 : Below w.heap.size w w5 := Below.trans (by first | go_grown | (repeat (first | exact hB4 | refine Below.alloc ?_ (by simp [World.setCell]; omega) _ | refine below_set ?_ (by omega)))) (hb5.mono (by go_size))
      clear hb5
      go_wp2_with fail
      refine bodyPost_ret (by simp [results, Tryz.results13, go_sem, *]; try rfl) rfl ?_
      first
        | exact ⟨rfl, (by first | go_grown | (repeat (first | exact hB5 | refine Below.alloc ?_ (by simp [World.setCell]; omega) _ | refine below_set ?_ (by omega))))⟩
        | exact ⟨rfl, (by first | go_grown | (repeat (first | exact hB4 | refine Below.alloc ?_ (by simp [World.setCell]; omega) _ | refine below_set ?_ (by omega))))⟩
        | exact ⟨rfl, (by first | go_grown | (repeat (first | exact hB3 | refine Below.alloc ?_ (by simp [World.setCell]; omega) _ | refine below_set ?_ (by omega))))⟩
    · have he3 := ba_ne ht
      obtain ⟨rfl, rfl, rfl⟩ := HN.out (.inr ht)
      generalize brakeText (numR (cutA s 43)) (numR (cutB s 43)) = T at *
      clear ht he
      clear HY HN
      generalize numR (cutA s 43) = P at *
      generalize numR (cutB s 43) = Q at *
      generalize numOk (cutA s 43) = OP at *
      generalize numOk (cutB s 43) = OQ at *
      generalize cutA s 43 = S1 at *
      generalize cutB s 43 = S2 at *
      go_enter Tryz.func13, Tryz.ntmps13
      go_wp2_with fail
      with_reducible refine (kc _ (hM.below (by go_grown))).mono ?_
      rintro e w1 ⟨⟨bo, rfl⟩, hb1⟩
      have q10 : w1.cell? ⟨w.heap.size, 0, none⟩ = some (.int .i64 0) := (hb1.cell (p := ⟨w.heap.size, 0, none⟩) (by first | omega | (simp; done) | (simp [World.setCell]; done) | (simp; omega) | (simp [World.setCell]; omega))).trans (by go_cell)
      have g10 : w1.frozen? ⟨w.heap.size, 0, none⟩ = false := (hb1.frozen (p := ⟨w.heap.size, 0, none⟩) (by first | omega | (simp; done) | (simp [World.setCell]; done) | (simp; omega) | (simp [World.setCell]; omega))).trans (by go_simp)
      have q11 : w1.cell? ⟨w.heap.size, 1, none⟩ = some (.int .i64 0) := (hb1.cell (p := ⟨w.heap.size, 1, none⟩) (by first | omega | (simp; done) | (simp [World.setCell]; done) | (simp; omega) | (simp [World.setCell]; omega))).trans (by go_cell)
      have g11 : w1.frozen? ⟨w.heap.size, 1, none⟩ = false := (hb1.frozen (p := ⟨w.heap.size, 1, none⟩) (by first | omega | (simp; done) | (simp [World.setCell]; done) | (simp; omega) | (simp [World.setCell]; omega))).trans (by go_simp)
      have z0 : w.heap.size < w1.heap.size := Nat.lt_of_lt_of_le (by simp) hb1.size
      have hB1 : Below w.heap.size w w1 := Below.trans (by go_grown) (hb1.mono (by go_size))
      clear hb1
      go_wp2_with fail
      with_reducible refine (kA _ (hT.below (by first | go_grown | (repeat (first | exact hB1 | refine Below.alloc ?_ (by simp [World.setCell]; omega) _ | refine below_set ?_ (by omega)))))).mono ?_
      rintro e w2 ⟨rfl, hb2⟩
      have z1 : w1.heap.size < w2.heap.size := Nat.lt_of_lt_of_le (by simp) hb2.size
      have z2 : w.heap.size < w2.heap.size := by omega
      have q20 : w2.cell? ⟨w.heap.size, 0, none⟩ = some (.int .i64 0) := (hb2.cell (p := ⟨w.heap.size, 0, none⟩) (by first | omega | (simp; done) | (simp [World.setCell]; done) | (simp; omega) | (simp [World.setCell]; omega))).trans (by go_cell)
      have g20 : w2.frozen? ⟨w.heap.size, 0, none⟩ = false := (hb2.frozen (p := ⟨w.heap.size, 0, none⟩) (by first | omega | (simp; done) | (simp [World.setCell]; done) | (simp; omega) | (simp [World.setCell]; omega))).trans (by go_simp)
      have q21 : w2.cell? ⟨w.heap.size, 1, none⟩ = some (.int .i64 0) := (hb2.cell (p := ⟨w.heap.size, 1, none⟩) (by first | omega | (simp; done) | (simp [World.setCell]; done) | (simp; omega) | (simp [World.setCell]; omega))).trans (by go_cell)
      have g21 : w2.frozen? ⟨w.heap.size, 1, none⟩ = false := (hb2.frozen (p := ⟨w.heap.size, 1, none⟩) (by first | omega | (simp; done) | (simp [World.setCell]; done) | (simp; omega) | (simp [World.setCell]; omega))).trans (by go_simp)
      have q22 : w2.cell? ⟨w1.heap.size, 0, none⟩ = some (.int .i64 0) := (hb2.cell (p := ⟨w1.heap.size, 0, none⟩) (by first | omega | (simp; done) | (simp [World.setCell]; done) | (simp; omega) | (simp [World.setCell]; omega))).trans (by go_cell)
      have g22 : w2.frozen? ⟨w1.heap.size, 0, none⟩ = false := (hb2.frozen (p := ⟨w1.heap.size, 0, none⟩) (by first | omega | (simp; done) | (simp [World.setCell]; done) | (simp; omega) | (simp [World.setCell]; omega))).trans (by go_simp)
      have q23 : w2.cell? ⟨w1.heap.size, 1, none⟩ = some (.int .i64 0) := (hb2.cell (p := ⟨w1.heap.size, 1, none⟩) (by first | omega | (simp; done) | (simp [World.setCell]; done) | (simp; omega) | (simp [World.setCell]; omega))).trans (by go_cell)
      have g23 : w2.frozen? ⟨w1.heap.size, 1, none⟩ = false := (hb2.frozen (p := ⟨w1.heap.size, 1, none⟩) (by first | omega | (simp; done) | (simp [World.setCell]; done) | (simp; omega) | (simp [World.setCell]; omega))).trans (by go_simp)
      have hB2 : Below w.heap.size w w2 := Below.trans (by first | go_grown | (repeat (first | exact hB1 | refine Below.alloc ?_ (by simp [World.setCell]; omega) _ | refine below_set ?_ (by omega)))) (hb2.mono (by go_size))
      clear hb2 q10 q11 g10 g11
      go_wp2_with fail
      with_reducible refine (kB _ (hT.below (by first | go_grown | (repeat (first | exact hB2 | refine Below.alloc ?_ (by simp [World.setCell]; omega) _ | refine below_set ?_ (by omega)))))).mono ?_
      rintro e w3 ⟨rfl, hb3⟩
      have z3 : w1.heap.size < w3.heap.size := Nat.lt_of_lt_of_le (by first | omega | (simp; done) | (simp [World.setCell]; done) | (simp; omega) | (simp [World.setCell]; omega)) hb3.size
      have z4 : w.heap.size < w3.heap.size := by omega
      have q30 : w3.cell? ⟨w.heap.size, 0, none⟩ = some (.int .i64 0) := (hb3.cell (p := ⟨w.heap.size, 0, none⟩) (by first | omega | (simp; done) | (simp [World.setCell]; done) | (simp; omega) | (simp [World.setCell]; omega))).trans (by go_cell)
      have g30 : w3.frozen? ⟨w.heap.size, 0, none⟩ = false := (hb3.frozen (p := ⟨w.heap.size, 0, none⟩) (by first | omega | (simp; done) | (simp [World.setCell]; done) | (simp; omega) | (simp [World.setCell]; omega))).trans (by go_simp)
      have q31 : w3.cell? ⟨w.heap.size, 1, none⟩ = some (.int .i64 0) := (hb3.cell (p := ⟨w.heap.size, 1, none⟩) (by first | omega | (simp; done) | (simp [World.setCell]; done) | (simp; omega) | (simp [World.setCell]; omega))).trans (by go_cell)
      have g31 : w3.frozen? ⟨w.heap.size, 1, none⟩ = false := (hb3.frozen (p := ⟨w.heap.size, 1, none⟩) (by first | omega | (simp; done) | (simp [World.setCell]; done) | (simp; omega) | (simp [World.setCell]; omega))).trans (by go_simp)
      have q32 : w3.cell? ⟨w1.heap.size, 0, none⟩ = some (.int .i64 P) := (hb3.cell (p := ⟨w1.heap.size, 0, none⟩) (by first | omega | (simp; done) | (simp [World.setCell]; done) | (simp; omega) | (simp [World.setCell]; omega))).trans (by go_cell)
      have g32 : w3.frozen? ⟨w1.heap.size, 0, none⟩ = false := (hb3.frozen (p := ⟨w1.heap.size, 0, none⟩) (by first | omega | (simp; done) | (simp [World.setCell]; done) | (simp; omega) | (simp [World.setCell]; omega))).trans (by go_simp)
      have q33 : w3.cell? ⟨w1.heap.size, 1, none⟩ = some (.int .i64 0) := (hb3.cell (p := ⟨w1.heap.size, 1, none⟩) (by first | omega | (simp; done) | (simp [World.setCell]; done) | (simp; omega) | (simp [World.setCell]; omega))).trans (by go_cell)
      have g33 : w3.frozen? ⟨w1.heap.size, 1, none⟩ = false := (hb3.frozen (p := ⟨w1.heap.size, 1, none⟩) (by first | omega | (simp; done) | (simp [World.setCell]; done) | (simp; omega) | (simp [World.setCell]; omega))).trans (by go_simp)
      have hB3 : Below w.heap.size w w3 := Below.trans (by first | go_grown | (repeat (first | exact hB2 | refine Below.alloc ?_ (by simp [World.setCell]; omega) _ | refine below_set ?_ (by omega)))) (hb3.mono (by go_size))
      clear hb3 q20 g20 q21 g21 q22 g22 q23 g23
      go_wp2_with fail
      with_reducible refine (kv _).mono ?_
      rintro e w4 ⟨rfl, hb4⟩
      have za4 : w1.heap.size < w4.heap.size := Nat.lt_of_lt_of_le (by first | omega | (simp; done) | (simp [World.setCell]; done) | (simp; omega) | (simp [World.setCell]; omega)) hb4.size
      have zb4 : w.heap.size < w4.heap.size := by omega
      have q40 : w4.cell? ⟨w.heap.size, 0, none⟩ = some (.int .i64 0) := (hb4.cell (p := ⟨w.heap.size, 0, none⟩) (by first | omega | (simp; done) | (simp [World.setCell]; done) | (simp; omega) | (simp [World.setCell]; omega))).trans (by go_cell)
      have g40 : w4.frozen? ⟨w.heap.size, 0, none⟩ = false := (hb4.frozen (p := ⟨w.heap.size, 0, none⟩) (by first | omega | (simp; done) | (simp [World.setCell]; done) | (simp; omega) | (simp [World.setCell]; omega))).trans (by go_simp)
      have q41 : w4.cell? ⟨w.heap.size, 1, none⟩ = some (.int .i64 0) := (hb4.cell (p := ⟨w.heap.size, 1, none⟩) (by first | omega | (simp; done) | (simp [World.setCell]; done) | (simp; omega) | (simp [World.setCell]; omega))).trans (by go_cell)
      have g41 : w4.frozen? ⟨w.heap.size, 1, none⟩ = false := (hb4.frozen (p := ⟨w.heap.size, 1, none⟩) (by first | omega | (simp; done) | (simp [World.setCell]; done) | (simp; omega) | (simp [World.setCell]; omega))).trans (by go_simp)
      have q42 : w4.cell? ⟨w1.heap.size, 0, none⟩ = some (.int .i64 P) := (hb4.cell (p := ⟨w1.heap.size, 0, none⟩) (by first | omega | (simp; done) | (simp [World.setCell]; done) | (simp; omega) | (simp [World.setCell]; omega))).trans (by go_cell)
      have g42 : w4.frozen? ⟨w1.heap.size, 0, none⟩ = false := (hb4.frozen (p := ⟨w1.heap.size, 0, none⟩) (by first | omega | (simp; done) | (simp [World.setCell]; done) | (simp; omega) | (simp [World.setCell]; omega))).trans (by go_simp)
      have q43 : w4.cell? ⟨w1.heap.size, 1, none⟩ = some (.int .i64 Q) := (hb4.cell (p := ⟨w1.heap.size, 1, none⟩) (by first | omega | (simp; done) | (simp [World.setCell]; done) | (simp; omega) | (simp [World.setCell]; omega))).trans (by go_cell)
      have g43 : w4.frozen? ⟨w1.heap.size, 1, none⟩ = false := (hb4.frozen (p := ⟨w1.heap.size, 1, none⟩) (by first | omega | (simp; done) | (simp [World.setCell]; done) | (simp; omega) | (simp [World.setCell]; omega))).trans (by go_simp)
      have hB4 : Below w.heap.size w w4 := Below.trans (by first | go_grown | (repeat (first | exact hB3 | refine Below.alloc ?_ (by simp [World.setCell]; omega) _ | refine below_set ?_ (by omega)))) (hb4.mono (by go_size))
      clear hb4
      go_wp2_with fail
      with_reducible refine (kt _ (hT.below (by first | go_grown | (repeat (first | exact hB4 | refine Below.alloc ?_ (by simp [World.setCell]; omega) _ | refine below_set ?_ (by omega))))).pow).mono ?_
      rintro e w5 ⟨rfl, hb5⟩
      have za5 : w1.heap.size < w5.heap.size := Nat.lt_of_lt_of_le (by first | omega | (simp; done) | (simp [World.setCell]; done) | (simp; omega) | (simp [World.setCell]; omega)) hb5.size
      have zb5 : w.heap.size < w5.heap.size := by omega
      have q50 : w5.cell? ⟨w.heap.size, 0, none⟩ = some (.int .i64 0) := (hb5.cell (p := ⟨w.heap.size, 0, none⟩) (by first | omega | (simp; done) | (simp [World.setCell]; done) | (simp; omega) | (simp [World.setCell]; omega))).trans (by go_cell)
      have g50 : w5.frozen? ⟨w.heap.size, 0, none⟩ = false := (hb5.frozen (p := ⟨w.heap.size, 0, none⟩) (by first | omega | (simp; done) | (simp [World.setCell]; done) | (simp; omega) | (simp [World.setCell]; omega))).trans (by go_simp)
      have q51 : w5.cell? ⟨w.heap.size, 1, none⟩ = some (.int .i64 0) := (hb5.cell (p := ⟨w.heap.size, 1, none⟩) (by first | omega | (simp; done) | (simp [World.setCell]; done) | (simp; omega) | (simp [World.setCell]; omega))).trans (by go_cell)
      have g51 : w5.frozen? ⟨w.heap.size, 1, none⟩ = false := (hb5.frozen (p := ⟨w.heap.size, 1, none⟩) (by first | omega | (simp; done) | (simp [World.setCell]; done) | (simp; omega) | (simp [World.setCell]; omega))).trans (by go_simp)
      have q52 : w5.cell? ⟨w1.heap.size, 0, none⟩ = some (.int .i64 P) := (hb5.cell (p := ⟨w1.heap.size, 0, none⟩) (by first | omega | (simp; done) | (simp [World.setCell]; done) | (simp; omega) | (simp [World.setCell]; omega))).trans (by go_cell)
      have g52 : w5.frozen? ⟨w1.heap.size, 0, none⟩ = false := (hb5.frozen (p := ⟨w1.heap.size, 0, none⟩) (by first | omega | (simp; done) | (simp [World.setCell]; done) | (simp; omega) | (simp [World.setCell]; omega))).trans (by go_simp)
      have q53 : w5.cell? ⟨w1.heap.size, 1, none⟩ = some (.int .i64 Q) := (hb5.cell (p := ⟨w1.heap.size, 1, none⟩) (by first | omega | (simp; done) | (simp [World.setCell]; done) | (simp; omega) | (simp [World.setCell]; omega))).trans (by go_cell)
      have g53 : w5.frozen? ⟨w1.heap.size, 1, none⟩ = false := (hb5.frozen (p := ⟨w1.heap.size, 1, none⟩) (by first | omega | (simp; done) | (simp [World.setCell]; done) | (simp; omega) | (simp [World.setCell]; omega))).trans (by go_simp)
      have hB5 : Below w.heap.size w w5 := Below.trans (by first | go_grown | (repeat (first | exact hB4 | refine Below.alloc ?_ (by simp [World.setCell]; omega) _ | refine below_set ?_ (by omega)))) (hb5.mono (by go_size))
      clear hb5
      go_wp2_with fail
      refine bodyPost_ret (by simp [results, Tryz.results13, go_sem, *]; try rfl) rfl ?_
      first
        | exact ⟨rfl, (by first | go_grown | (repeat (first | exact hB5 | refine Below.alloc ?_ (by simp [World.setCell]; omega) _ | refine below_set ?_ (by omega))))⟩
        | exact ⟨rfl, (by first | go_grown | (repeat (first | exact hB4 | refine Below.alloc ?_ (by simp [World.setCell]; omega) _ | refine below_set ?_ (by omega))))⟩
        | exact ⟨rfl, (by first | go_grown | (repeat (first | exact hB3 | refine Below.alloc ?_ (by simp [World.setCell]; omega) _ | refine below_set ?_ (by omega))))⟩

end Go.Proofs.YteccpafoojkmjaaGreatDoor
/-
  Walk of the law FnTexts.
-/
namespace Go.Proofs.YteccpafoojkmjaaGreatDoor
open Go.RowKit
set_option linter.unusedVariables false
set_option linter.unusedSimpArgs false

theorem brake_small {d f : Int} (h : validBrake d f = true) : (brakeTx d f).size ≤ 1048576 := by
  have hb := validBrake_bd' h
  have a := dtx_size (n := d) (by omega) (by omega)
  have b := dtx_size (n := f) (by omega) (by omega)
  have c : (⟨#[43]⟩ : ByteArray).size = 1 := rfl
  unfold brakeTx
  simp only [ByteArray.size_append]
  omega
theorem state_small (m : Int) (o a b e : Bool) : (stateText m o a b e).size ≤ 1048576 := by
  have h := modeName_size m
  have h1 := sgn_size o (c := ⟨#[111]⟩) rfl
  have h2 := sgn_size a (c := ⟨#[111]⟩) rfl
  have h3 := sgn_size b (c := ⟨#[98]⟩) rfl
  have h4 := sgn_size e (c := ⟨#[101]⟩) rfl
  unfold stateText
  simp only [ByteArray.size_append]
  have c : (⟨#[32]⟩ : ByteArray).size = 1 := rfl
  first | omega | (cases o <;> cases a <;> cases b <;> cases e <;> (simp only [sgn] at *; omega)) | (cases o <;> cases a <;> cases b <;> cases e <;> (show _ + 1 + 1 + 1 + 1 + 1 ≤ _; omega))

theorem run_neq_Profile_same (x0 x1 x2 x3 : Int) (W : World) :
    (binOp .neq 29 (.agg #[.int .i64 x0, .int .i64 x1, .int .i64 x2, .int .i64 x3]) (.agg #[.int .i64 x0, .int .i64 x1, .int .i64 x2, .int .i64 x3])).run Tryz.prog W = .ok (.bool false) W := by
  rw [run_neq_struct]
  generalize hd : 10000 = D
  obtain ⟨d, rfl⟩ : ∃ d, D = d + 1 + 1 := ⟨9998, by omega⟩
  rw [run_equalIn_agg (d := d + 1) (ht := by kernel_rfl) (hp := by kernel_rfl)]
  simp only [Program.fieldsOf, Tryz.underlying29]
  clear hd
  have u2 := Tryz.underlying2
  go_simp
theorem run_neq_Brake_same (x0 x1 : Int) (W : World) :
    (binOp .neq 32 (.agg #[.int .i64 x0, .int .i64 x1]) (.agg #[.int .i64 x0, .int .i64 x1])).run Tryz.prog W = .ok (.bool false) W := by
  rw [run_neq_struct]
  generalize hd : 10000 = D
  obtain ⟨d, rfl⟩ : ∃ d, D = d + 1 + 1 := ⟨9998, by omega⟩
  rw [run_equalIn_agg (d := d + 1) (ht := by kernel_rfl) (hp := by kernel_rfl)]
  simp only [Program.fieldsOf, Tryz.underlying32]
  clear hd
  have u2 := Tryz.underlying2
  go_simp
theorem run_neq_Section_same (x0 x1 : Int) (W : World) :
    (binOp .neq 50 (.agg #[.int .i64 x0, .int .i64 x1]) (.agg #[.int .i64 x0, .int .i64 x1])).run Tryz.prog W = .ok (.bool false) W := by
  rw [run_neq_struct]
  generalize hd : 10000 = D
  obtain ⟨d, rfl⟩ : ∃ d, D = d + 1 + 1 := ⟨9998, by omega⟩
  rw [run_equalIn_agg (d := d + 1) (ht := by kernel_rfl) (hp := by kernel_rfl)]
  simp only [Program.fieldsOf, Tryz.underlying50]
  clear hd
  have u2 := Tryz.underlying2
  go_simp
theorem run_neq_State_same (x0 : Int) (x1 x2 x3 x4 : Bool) (W : World) :
    (binOp .neq 35 (.agg #[.int .i64 x0, .bool x1, .bool x2, .bool x3, .bool x4]) (.agg #[.int .i64 x0, .bool x1, .bool x2, .bool x3, .bool x4])).run Tryz.prog W = .ok (.bool false) W := by
  rw [run_neq_struct]
  generalize hd : 10000 = D
  obtain ⟨d, rfl⟩ : ∃ d, D = d + 1 + 1 := ⟨9998, by omega⟩
  rw [run_equalIn_agg (d := d + 1) (ht := by kernel_rfl) (hp := by kernel_rfl)]
  simp only [Program.fieldsOf, Tryz.underlying35]
  clear hd
  have u2 := Tryz.underlying2
  have u4 := Tryz.underlying4
  go_simp
set_option maxHeartbeats 16000000 in
set_option maxRecDepth 100000 in
theorem law_FnTexts (a0 : Option Addr) (n0 c0 : Nat) (a1 : Option Addr) (n1 c1 : Nat) (w : World) (hz0 : BytesAt w a0 n0) (hz1 : BytesAt w a1 n1) (hT : Tabs w) (hM : MaxAt w) :
    Calls Tryz.prog 3 #[.slice a0 n0 c0, .slice a1 n1 c1] w fun e w' => e = .returned (.bool true) ∧ Below w.heap.size w w' := by
  have kl := fun W => laws_r8Long a0 a1 n0 n1 c0 c1 W
  by_cases hlen : n0 ≤ 1048576 ∧ n1 ≤ 1048576
  · rw [decide_eq_false (show ¬ 1048576 < n0 by omega), decide_eq_false (show ¬ 1048576 < n1 by omega), Bool.or_false] at kl
    have HZ0 := Lib.hid hz0
    have HZ1 := Lib.hid hz1
    have HT := Lib.hid hT
    have HM := Lib.hid hM
    clear hz0 hz1 hT hM
    go_enter Tryz.func3, Tryz.ntmps3
    go_wp2_with (first | (go_at_call 4; (with_reducible refine (kl _).mono ?_); rintro e w' ⟨rfl, rfl⟩) | fail)
    clear kl
    refine (spec_R8Track a0 n0 c0 _ HZ0.out hlen.1).mono ?_
    rintro e w0 ⟨⟨aT, n, cT, L, G, lf, lu, rfl, hP, hok⟩, hB⟩
    have HOK := Lib.hid hok
    clear hok
    have bA : Below w0.heap.size w0 (w0.alloc (Obj.cells #[.slice aT n cT, .int .i64 lf, .int .i64 lu] 26)) := Below.alloc (Below.refl _ _) (Nat.le_refl _) _
    have x0 : (w0.alloc (Obj.cells #[.slice aT n cT, .int .i64 lf, .int .i64 lu] 26)).cell? ⟨w0.heap.size, 0, none⟩ = some (.slice aT n cT) := by go_cell
    have x1 : (w0.alloc (Obj.cells #[.slice aT n cT, .int .i64 lf, .int .i64 lu] 26)).cell? ⟨w0.heap.size, 1, none⟩ = some (.int .i64 lf) := by go_cell
    have x2 : (w0.alloc (Obj.cells #[.slice aT n cT, .int .i64 lf, .int .i64 lu] 26)).cell? ⟨w0.heap.size, 2, none⟩ = some (.int .i64 lu) := by go_cell
    have lX : w0.heap.size < (w0.alloc (Obj.cells #[.slice aT n cT, .int .i64 lf, .int .i64 lu] 26)).heap.size := by simp
    replace hP := hP.below bA
    replace hB := hB.trans (bA.mono hB.size)
    clear bA
    go_upto_region 4 with fail
    generalize w0.alloc (Obj.cells #[.slice aT n cT, .int .i64 lf, .int .i64 lu] 26) = v1 at *
    generalize w0.heap.size = T at *
    clear w0
    have HH := ((((Held.nil v1).cons lX x2).cons lX x1).cons lX x0)
    clear lX x0 x1 x2
    go_wp2_with fail
    refine (spec_R8Profile a1 n1 c1 _ (HZ1.out.below hB) hlen.2).mono ?_
    rintro e v2 ⟨⟨pa, pr, pc, py, rfl, hpr⟩, hb⟩
    have HPR := Lib.hid hpr
    clear hpr
    replace hP := hP.below hb
    replace HH := HH.below hb
    replace hB := hB.trans (hb.mono hB.size)
    clear hb
    have bA : Below v2.heap.size v2 (v2.alloc (Obj.cells #[.int .i64 pa, .int .i64 pr, .int .i64 pc, .int .i64 py] 29)) := Below.alloc (Below.refl _ _) (Nat.le_refl _) _
    have x0 : (v2.alloc (Obj.cells #[.int .i64 pa, .int .i64 pr, .int .i64 pc, .int .i64 py] 29)).cell? ⟨v2.heap.size, 0, none⟩ = some (.int .i64 pa) := by go_cell
    have x1 : (v2.alloc (Obj.cells #[.int .i64 pa, .int .i64 pr, .int .i64 pc, .int .i64 py] 29)).cell? ⟨v2.heap.size, 1, none⟩ = some (.int .i64 pr) := by go_cell
    have x2 : (v2.alloc (Obj.cells #[.int .i64 pa, .int .i64 pr, .int .i64 pc, .int .i64 py] 29)).cell? ⟨v2.heap.size, 2, none⟩ = some (.int .i64 pc) := by go_cell
    have x3 : (v2.alloc (Obj.cells #[.int .i64 pa, .int .i64 pr, .int .i64 pc, .int .i64 py] 29)).cell? ⟨v2.heap.size, 3, none⟩ = some (.int .i64 py) := by go_cell
    have lX : v2.heap.size < (v2.alloc (Obj.cells #[.int .i64 pa, .int .i64 pr, .int .i64 pc, .int .i64 py] 29)).heap.size := by simp
    replace hP := hP.below bA
    replace HH := HH.below bA
    replace hB := hB.trans (bA.mono hB.size)
    clear bA
    go_upto_region 5 with fail
    generalize v2.alloc (Obj.cells #[.int .i64 pa, .int .i64 pr, .int .i64 pc, .int .i64 py] 29) = v3 at *
    generalize v2.heap.size = Q at *
    clear v2
    replace HH := ((((HH.cons lX x3).cons lX x2).cons lX x1).cons lX x0)
    clear lX x0 x1 x2 x3
    go_wp2_with fail
    refine (spec_R8Brake a0 n0 c0 _ (HZ0.out.below hB) hlen.1).mono ?_
    rintro e v4 ⟨d, f, rfl, d0, d1, f0, f1, hb⟩
    have hvb : validBrake d f = true := by unfold validBrake; rw [Bool.and_eq_true, inB_true, inB_true]; omega
    have HVB := Lib.hid hvb
    clear hvb d0 d1 f0 f1
    replace hP := hP.below hb
    replace HH := HH.below hb
    replace hB := hB.trans (hb.mono hB.size)
    clear hb
    have bA : Below v4.heap.size v4 (v4.alloc (Obj.cells #[.int .i64 d, .int .i64 f] 32)) := Below.alloc (Below.refl _ _) (Nat.le_refl _) _
    have x0 : (v4.alloc (Obj.cells #[.int .i64 d, .int .i64 f] 32)).cell? ⟨v4.heap.size, 0, none⟩ = some (.int .i64 d) := by go_cell
    have x1 : (v4.alloc (Obj.cells #[.int .i64 d, .int .i64 f] 32)).cell? ⟨v4.heap.size, 1, none⟩ = some (.int .i64 f) := by go_cell
    have lX : v4.heap.size < (v4.alloc (Obj.cells #[.int .i64 d, .int .i64 f] 32)).heap.size := by simp
    replace hP := hP.below bA
    replace HH := HH.below bA
    replace hB := hB.trans (bA.mono hB.size)
    clear bA
    go_upto_region 6 with fail
    generalize v4.alloc (Obj.cells #[.int .i64 d, .int .i64 f] 32) = v5 at *
    generalize v4.heap.size = B at *
    clear v4
    replace HH := ((HH.cons lX x1).cons lX x0)
    clear lX x0 x1
    go_wp2_with fail
    refine (spec_R8Control a1 n1 c1 _ (HZ1.out.below hB) hlen.2).mono ?_
    rintro e0 v6 ⟨m, o, a, b, e, rfl, m0, m1, hb⟩
    have hvm : inB m 0 4 = true := inB_true.2 ⟨m0, m1⟩
    have HVM := Lib.hid hvm
    clear hvm m0 m1
    replace hP := hP.below hb
    replace HH := HH.below hb
    replace hB := hB.trans (hb.mono hB.size)
    clear hb
    have bA : Below v6.heap.size v6 (v6.alloc (Obj.cells #[.int .i64 m, .bool o, .bool a, .bool b, .bool e] 35)) := Below.alloc (Below.refl _ _) (Nat.le_refl _) _
    have x0 : (v6.alloc (Obj.cells #[.int .i64 m, .bool o, .bool a, .bool b, .bool e] 35)).cell? ⟨v6.heap.size, 0, none⟩ = some (.int .i64 m) := by go_cell
    have x1 : (v6.alloc (Obj.cells #[.int .i64 m, .bool o, .bool a, .bool b, .bool e] 35)).cell? ⟨v6.heap.size, 1, none⟩ = some (.bool o) := by go_cell
    have x2 : (v6.alloc (Obj.cells #[.int .i64 m, .bool o, .bool a, .bool b, .bool e] 35)).cell? ⟨v6.heap.size, 2, none⟩ = some (.bool a) := by go_cell
    have x3 : (v6.alloc (Obj.cells #[.int .i64 m, .bool o, .bool a, .bool b, .bool e] 35)).cell? ⟨v6.heap.size, 3, none⟩ = some (.bool b) := by go_cell
    have x4 : (v6.alloc (Obj.cells #[.int .i64 m, .bool o, .bool a, .bool b, .bool e] 35)).cell? ⟨v6.heap.size, 4, none⟩ = some (.bool e) := by go_cell
    have lX : v6.heap.size < (v6.alloc (Obj.cells #[.int .i64 m, .bool o, .bool a, .bool b, .bool e] 35)).heap.size := by simp
    replace hP := hP.below bA
    replace HH := HH.below bA
    replace hB := hB.trans (bA.mono hB.size)
    clear bA
    go_upto_region 7 with fail
    generalize v6.alloc (Obj.cells #[.int .i64 m, .bool o, .bool a, .bool b, .bool e] 35) = v7 at *
    generalize v6.heap.size = C at *
    clear v6
    replace HH := (((((HH.cons lX x4).cons lX x3).cons lX x2).cons lX x1).cons lX x0)
    clear lX x0 x1 x2 x3 x4
    have kt := fun W h1 h2 => impl_TrackText_ok aT n cT L G lf lu W h1 HOK.out h2
    have kr := fun W h1 h2 => impl_ReadTrack_ok n L G lf lu _ W HOK.out rfl h1 h2
    generalize accT lf lu L G n = sT at *
    have c0 : v7.cell? ⟨T, 0, none⟩ = some (.slice aT n cT) := HH.get 11 _ rfl
    have c1 : v7.cell? ⟨T, 1, none⟩ = some (.int .i64 lf) := HH.get 12 _ rfl
    have c2 : v7.cell? ⟨T, 2, none⟩ = some (.int .i64 lu) := HH.get 13 _ rfl
    go_wp2_with fail
    refine (kt _ hP (HT.out.below hB).pow).mono ?_
    rintro e0 v8 ⟨rfl, hb⟩
    clear c0 c1 c2 kt
    replace hP := hP.below hb
    replace HH := HH.below hb
    replace hB := hB.trans (hb.mono hB.size)
    clear hb
    go_wp2_with fail
    refine (kr _ (HT.out.below hB) (HM.out.below hB)).mono ?_
    rintro e0 v9 ⟨⟨aU, cU, rfl, hU⟩, hb⟩
    clear kr
    replace hP := hP.below hb
    replace HH := HH.below hb
    replace hB := hB.trans (hb.mono hB.size)
    clear hb
    have bA : Below v9.heap.size v9 (v9.alloc (Obj.cells #[.slice aU n cU, .int .i64 lf, .int .i64 lu] 26)) := Below.alloc (Below.refl _ _) (Nat.le_refl _) _
    have x0 : (v9.alloc (Obj.cells #[.slice aU n cU, .int .i64 lf, .int .i64 lu] 26)).cell? ⟨v9.heap.size, 0, none⟩ = some (.slice aU n cU) := by go_cell
    have x1 : (v9.alloc (Obj.cells #[.slice aU n cU, .int .i64 lf, .int .i64 lu] 26)).cell? ⟨v9.heap.size, 1, none⟩ = some (.int .i64 lf) := by go_cell
    have x2 : (v9.alloc (Obj.cells #[.slice aU n cU, .int .i64 lf, .int .i64 lu] 26)).cell? ⟨v9.heap.size, 2, none⟩ = some (.int .i64 lu) := by go_cell
    have lX : v9.heap.size < (v9.alloc (Obj.cells #[.slice aU n cU, .int .i64 lf, .int .i64 lu] 26)).heap.size := by simp
    replace hP := hP.below bA
    replace hU := hU.below bA
    replace HH := HH.below bA
    replace hB := hB.trans (bA.mono hB.size)
    clear bA
    go_upto_region 8 with fail
    generalize v9.alloc (Obj.cells #[.slice aU n cU, .int .i64 lf, .int .i64 lu] 26) = v10 at *
    generalize v9.heap.size = U at *
    clear v9
    replace HH := (((HH.cons lX x2).cons lX x1).cons lX x0)
    clear lX x0 x1 x2
    have kt := fun W h => impl_ProfileText_ok pa pr pc py W HPR.out h
    have kr := fun W h1 h2 => impl_ReadProfile_ok _ pa pr pc py W HPR.out rfl h1 h2
    generalize profText pa pr pc py = sT at *
    have c0 : v10.cell? ⟨Q, 0, none⟩ = some (.int .i64 pa) := HH.get 10 _ rfl
    have c1 : v10.cell? ⟨Q, 1, none⟩ = some (.int .i64 pr) := HH.get 11 _ rfl
    have c2 : v10.cell? ⟨Q, 2, none⟩ = some (.int .i64 pc) := HH.get 12 _ rfl
    have c3 : v10.cell? ⟨Q, 3, none⟩ = some (.int .i64 py) := HH.get 13 _ rfl
    go_wp2_with fail
    refine (kt _ (HT.out.below hB).pow).mono ?_
    rintro e0 v11 ⟨rfl, hb⟩
    clear c0 c1 c2 c3 kt
    replace hP := hP.below hb
    replace hU := hU.below hb
    replace HH := HH.below hb
    replace hB := hB.trans (hb.mono hB.size)
    clear hb
    go_wp2_with fail
    refine (kr _ (HT.out.below hB) (HM.out.below hB)).mono ?_
    rintro e0 v12 ⟨rfl, hb⟩
    clear kr
    replace hP := hP.below hb
    replace hU := hU.below hb
    replace HH := HH.below hb
    replace hB := hB.trans (hb.mono hB.size)
    clear hb
    have bA : Below v12.heap.size v12 (v12.alloc (Obj.cells #[.int .i64 pa, .int .i64 pr, .int .i64 pc, .int .i64 py] 29)) := Below.alloc (Below.refl _ _) (Nat.le_refl _) _
    have x0 : (v12.alloc (Obj.cells #[.int .i64 pa, .int .i64 pr, .int .i64 pc, .int .i64 py] 29)).cell? ⟨v12.heap.size, 0, none⟩ = some (.int .i64 pa) := by go_cell
    have x1 : (v12.alloc (Obj.cells #[.int .i64 pa, .int .i64 pr, .int .i64 pc, .int .i64 py] 29)).cell? ⟨v12.heap.size, 1, none⟩ = some (.int .i64 pr) := by go_cell
    have x2 : (v12.alloc (Obj.cells #[.int .i64 pa, .int .i64 pr, .int .i64 pc, .int .i64 py] 29)).cell? ⟨v12.heap.size, 2, none⟩ = some (.int .i64 pc) := by go_cell
    have x3 : (v12.alloc (Obj.cells #[.int .i64 pa, .int .i64 pr, .int .i64 pc, .int .i64 py] 29)).cell? ⟨v12.heap.size, 3, none⟩ = some (.int .i64 py) := by go_cell
    have lX : v12.heap.size < (v12.alloc (Obj.cells #[.int .i64 pa, .int .i64 pr, .int .i64 pc, .int .i64 py] 29)).heap.size := by simp
    replace hP := hP.below bA
    replace hU := hU.below bA
    replace HH := HH.below bA
    replace hB := hB.trans (bA.mono hB.size)
    clear bA
    go_upto_region 9 with fail
    generalize v12.alloc (Obj.cells #[.int .i64 pa, .int .i64 pr, .int .i64 pc, .int .i64 py] 29) = v13 at *
    generalize v12.heap.size = V at *
    clear v12
    replace HH := ((((HH.cons lX x3).cons lX x2).cons lX x1).cons lX x0)
    clear lX x0 x1 x2 x3
    have kt := fun W h => impl_BrakeText d f W h
    rw [show brakeText d f = brakeTx d f by unfold brakeText; rw [if_pos HVB.out]] at kt
    have kr := fun W h1 h2 => impl_ReadBrake (brakeTx d f) d f true W (brake_small HVB.out) (Or.inl ⟨rfl, HVB.out, rfl⟩) h1 h2
    generalize brakeTx d f = sT at *
    have c0 : v13.cell? ⟨B, 0, none⟩ = some (.int .i64 d) := HH.get 12 _ rfl
    have c1 : v13.cell? ⟨B, 1, none⟩ = some (.int .i64 f) := HH.get 13 _ rfl
    go_wp2_with fail
    refine (kt _ (HT.out.below hB).pow).mono ?_
    rintro e0 v14 ⟨rfl, hb⟩
    clear c0 c1 kt
    replace hP := hP.below hb
    replace hU := hU.below hb
    replace HH := HH.below hb
    replace hB := hB.trans (hb.mono hB.size)
    clear hb
    go_wp2_with fail
    refine (kr _ (HT.out.below hB) (HM.out.below hB)).mono ?_
    rintro e0 v15 ⟨rfl, hb⟩
    clear kr
    replace hP := hP.below hb
    replace hU := hU.below hb
    replace HH := HH.below hb
    replace hB := hB.trans (hb.mono hB.size)
    clear hb
    have bA : Below v15.heap.size v15 (v15.alloc (Obj.cells #[.int .i64 d, .int .i64 f] 32)) := Below.alloc (Below.refl _ _) (Nat.le_refl _) _
    have x0 : (v15.alloc (Obj.cells #[.int .i64 d, .int .i64 f] 32)).cell? ⟨v15.heap.size, 0, none⟩ = some (.int .i64 d) := by go_cell
    have x1 : (v15.alloc (Obj.cells #[.int .i64 d, .int .i64 f] 32)).cell? ⟨v15.heap.size, 1, none⟩ = some (.int .i64 f) := by go_cell
    have lX : v15.heap.size < (v15.alloc (Obj.cells #[.int .i64 d, .int .i64 f] 32)).heap.size := by simp
    replace hP := hP.below bA
    replace hU := hU.below bA
    replace HH := HH.below bA
    replace hB := hB.trans (bA.mono hB.size)
    clear bA
    go_upto_region 10 with fail
    generalize v15.alloc (Obj.cells #[.int .i64 d, .int .i64 f] 32) = v16 at *
    generalize v15.heap.size = D at *
    clear v15
    replace HH := ((HH.cons lX x1).cons lX x0)
    clear lX x0 x1
    have kt := fun W => impl_StateText m o a b e W
    rw [if_pos HVM.out] at kt
    have kr := fun W h2 => impl_ReadState (stateText m o a b e) m o a b e true W (state_small m o a b e) (Or.inl ⟨rfl, HVM.out, rfl⟩) h2
    generalize stateText m o a b e = sT at *
    have c0 : v16.cell? ⟨C, 0, none⟩ = some (.int .i64 m) := HH.get 9 _ rfl
    have c1 : v16.cell? ⟨C, 1, none⟩ = some (.bool o) := HH.get 10 _ rfl
    have c2 : v16.cell? ⟨C, 2, none⟩ = some (.bool a) := HH.get 11 _ rfl
    have c3 : v16.cell? ⟨C, 3, none⟩ = some (.bool b) := HH.get 12 _ rfl
    have c4 : v16.cell? ⟨C, 4, none⟩ = some (.bool e) := HH.get 13 _ rfl
    go_wp2_with fail
    refine (kt _).mono ?_
    rintro e0 v17 ⟨rfl, hb⟩
    clear c0 c1 c2 c3 c4 kt
    replace hP := hP.below hb
    replace hU := hU.below hb
    replace HH := HH.below hb
    replace hB := hB.trans (hb.mono hB.size)
    clear hb
    go_wp2_with fail
    refine (kr _ (HM.out.below hB)).mono ?_
    rintro e0 v18 ⟨rfl, hb⟩
    clear kr
    replace hP := hP.below hb
    replace hU := hU.below hb
    replace HH := HH.below hb
    replace hB := hB.trans (hb.mono hB.size)
    clear hb
    have bA : Below v18.heap.size v18 (v18.alloc (Obj.cells #[.int .i64 m, .bool o, .bool a, .bool b, .bool e] 35)) := Below.alloc (Below.refl _ _) (Nat.le_refl _) _
    have x0 : (v18.alloc (Obj.cells #[.int .i64 m, .bool o, .bool a, .bool b, .bool e] 35)).cell? ⟨v18.heap.size, 0, none⟩ = some (.int .i64 m) := by go_cell
    have x1 : (v18.alloc (Obj.cells #[.int .i64 m, .bool o, .bool a, .bool b, .bool e] 35)).cell? ⟨v18.heap.size, 1, none⟩ = some (.bool o) := by go_cell
    have x2 : (v18.alloc (Obj.cells #[.int .i64 m, .bool o, .bool a, .bool b, .bool e] 35)).cell? ⟨v18.heap.size, 2, none⟩ = some (.bool a) := by go_cell
    have x3 : (v18.alloc (Obj.cells #[.int .i64 m, .bool o, .bool a, .bool b, .bool e] 35)).cell? ⟨v18.heap.size, 3, none⟩ = some (.bool b) := by go_cell
    have x4 : (v18.alloc (Obj.cells #[.int .i64 m, .bool o, .bool a, .bool b, .bool e] 35)).cell? ⟨v18.heap.size, 4, none⟩ = some (.bool e) := by go_cell
    have lX : v18.heap.size < (v18.alloc (Obj.cells #[.int .i64 m, .bool o, .bool a, .bool b, .bool e] 35)).heap.size := by simp
    replace hP := hP.below bA
    replace hU := hU.below bA
    replace HH := HH.below bA
    replace hB := hB.trans (bA.mono hB.size)
    clear bA
    go_upto_region 11 with fail
    generalize v18.alloc (Obj.cells #[.int .i64 m, .bool o, .bool a, .bool b, .bool e] 35) = v19 at *
    generalize v18.heap.size = E at *
    clear v18
    replace HH := (((((HH.cons lX x4).cons lX x3).cons lX x2).cons lX x1).cons lX x0)
    clear lX x0 x1 x2 x3 x4
    go_cut [104] (fun u W => W = v19 ∧ u = .bool false)
    case first => as_aux_lemma =>
      have ct0 : v19.cell? ⟨T, 0, none⟩ = some (.slice aT n cT) := HH.get 25 _ rfl
      have ct1 : v19.cell? ⟨T, 1, none⟩ = some (.int .i64 lf) := HH.get 26 _ rfl
      have ct2 : v19.cell? ⟨T, 2, none⟩ = some (.int .i64 lu) := HH.get 27 _ rfl
      have cq0 : v19.cell? ⟨Q, 0, none⟩ = some (.int .i64 pa) := HH.get 21 _ rfl
      have cq1 : v19.cell? ⟨Q, 1, none⟩ = some (.int .i64 pr) := HH.get 22 _ rfl
      have cq2 : v19.cell? ⟨Q, 2, none⟩ = some (.int .i64 pc) := HH.get 23 _ rfl
      have cq3 : v19.cell? ⟨Q, 3, none⟩ = some (.int .i64 py) := HH.get 24 _ rfl
      have cb0 : v19.cell? ⟨B, 0, none⟩ = some (.int .i64 d) := HH.get 19 _ rfl
      have cb1 : v19.cell? ⟨B, 1, none⟩ = some (.int .i64 f) := HH.get 20 _ rfl
      have cc0 : v19.cell? ⟨C, 0, none⟩ = some (.int .i64 m) := HH.get 14 _ rfl
      have cc1 : v19.cell? ⟨C, 1, none⟩ = some (.bool o) := HH.get 15 _ rfl
      have cc2 : v19.cell? ⟨C, 2, none⟩ = some (.bool a) := HH.get 16 _ rfl
      have cc3 : v19.cell? ⟨C, 3, none⟩ = some (.bool b) := HH.get 17 _ rfl
      have cc4 : v19.cell? ⟨C, 4, none⟩ = some (.bool e) := HH.get 18 _ rfl
      have cu0 : v19.cell? ⟨U, 0, none⟩ = some (.slice aU n cU) := HH.get 11 _ rfl
      have cu1 : v19.cell? ⟨U, 1, none⟩ = some (.int .i64 lf) := HH.get 12 _ rfl
      have cu2 : v19.cell? ⟨U, 2, none⟩ = some (.int .i64 lu) := HH.get 13 _ rfl
      have cv0 : v19.cell? ⟨V, 0, none⟩ = some (.int .i64 pa) := HH.get 7 _ rfl
      have cv1 : v19.cell? ⟨V, 1, none⟩ = some (.int .i64 pr) := HH.get 8 _ rfl
      have cv2 : v19.cell? ⟨V, 2, none⟩ = some (.int .i64 pc) := HH.get 9 _ rfl
      have cv3 : v19.cell? ⟨V, 3, none⟩ = some (.int .i64 py) := HH.get 10 _ rfl
      have cd0 : v19.cell? ⟨D, 0, none⟩ = some (.int .i64 d) := HH.get 5 _ rfl
      have cd1 : v19.cell? ⟨D, 1, none⟩ = some (.int .i64 f) := HH.get 6 _ rfl
      have ce0 : v19.cell? ⟨E, 0, none⟩ = some (.int .i64 m) := HH.get 0 _ rfl
      have ce1 : v19.cell? ⟨E, 1, none⟩ = some (.bool o) := HH.get 1 _ rfl
      have ce2 : v19.cell? ⟨E, 2, none⟩ = some (.bool a) := HH.get 2 _ rfl
      have ce3 : v19.cell? ⟨E, 3, none⟩ = some (.bool b) := HH.get 3 _ rfl
      have ce4 : v19.cell? ⟨E, 4, none⟩ = some (.bool e) := HH.get 4 _ rfl
      have e1 := fun W => run_neq_Profile_same pa pr pc py W
      have e2 := fun W => run_neq_Brake_same d f W
      have e3 := fun W => run_neq_State_same m o a b e W
      go_wp2
      go_meet
      exact ⟨rfl, rfl⟩
    case rest => as_aux_lemma =>
      obtain ⟨rfl, rfl⟩ := hcut
      obtain ⟨n1', n12, -, -⟩ := track_at HOK.out
      obtain ⟨bT, oT, eT, hbT, hcT⟩ := id hP (by omega)
      obtain ⟨bU, oU, eU, hbU, hcU⟩ := id hU (by omega)
      subst eT eU
      clear hbT hcT hbU hcU
      have e4 := fun k W => run_neq_Section_same (L k) (G k) W
      go_wp2_with fail
      go_loopw [17] (fun i wr => ∃ k : Nat, k ≤ n ∧ i = .int .i64 (k : Int) ∧ PassAt wr (some ⟨bT, oT, none⟩) n L G ∧ PassAt wr (some ⟨bU, oU, none⟩) n L G ∧ Held wr [(E, 0, .int .i64 m), (E, 1, .bool o), (E, 2, .bool a), (E, 3, .bool b), (E, 4, .bool e), (D, 0, .int .i64 d), (D, 1, .int .i64 f), (V, 0, .int .i64 pa), (V, 1, .int .i64 pr), (V, 2, .int .i64 pc), (V, 3, .int .i64 py), (U, 0, .slice (some ⟨bU, oU, none⟩) n cU), (U, 1, .int .i64 lf), (U, 2, .int .i64 lu), (C, 0, .int .i64 m), (C, 1, .bool o), (C, 2, .bool a), (C, 3, .bool b), (C, 4, .bool e), (B, 0, .int .i64 d), (B, 1, .int .i64 f), (Q, 0, .int .i64 pa), (Q, 1, .int .i64 pr), (Q, 2, .int .i64 pc), (Q, 3, .int .i64 py), (T, 0, .slice (some ⟨bT, oT, none⟩) n cT), (T, 1, .int .i64 lf), (T, 2, .int .i64 lu)] ∧ Below w.heap.size w wr) (fun i _ => n - (intOf i).toNat)
      case atStart => exact ⟨0, by omega, rfl, hP, hU, HH, hB⟩
      case round => as_aux_lemma =>
        clear hP hU HH hB
        obtain ⟨k, hk, rfl, hP, hU, HH, hB⟩ := hrel
        have ct0 : wr.cell? ⟨T, 0, none⟩ = some (.slice (some ⟨bT, oT, none⟩) n cT) := HH.get 25 _ rfl
        have ct1 : wr.cell? ⟨T, 1, none⟩ = some (.int .i64 lf) := HH.get 26 _ rfl
        have ct2 : wr.cell? ⟨T, 2, none⟩ = some (.int .i64 lu) := HH.get 27 _ rfl
        have cu0 : wr.cell? ⟨U, 0, none⟩ = some (.slice (some ⟨bU, oU, none⟩) n cU) := HH.get 11 _ rfl
        have cu1 : wr.cell? ⟨U, 1, none⟩ = some (.int .i64 lf) := HH.get 12 _ rfl
        have cu2 : wr.cell? ⟨U, 2, none⟩ = some (.int .i64 lu) := HH.get 13 _ rfl
        by_cases hlt : k < n
        · have k0 : (k : Int) < (n : Int) := by omega
          have k1 : ¬ (k : Int) < 0 := by omega
          obtain ⟨b1, o1, ex, lb1, hcT⟩ := id hP (by omega)
          obtain ⟨rfl, rfl⟩ : bT = b1 ∧ oT = o1 := by injection ex with ex; injection ex with e1 e2; exact ⟨e1, e2⟩
          obtain ⟨b2, o2, ey, lb2, hcU⟩ := id hU (by omega)
          obtain ⟨rfl, rfl⟩ : bU = b2 ∧ oU = o2 := by injection ey with ey; injection ey with e1 e2; exact ⟨e1, e2⟩
          obtain ⟨x0, x1⟩ := hcT k hlt
          obtain ⟨y0, y1⟩ := hcU k hlt
          have lb3 : T < wr.heap.size := HH.lt 25 _ rfl
          have lb4 : U < wr.heap.size := HH.lt 11 _ rfl
          have e5 := e4 k
          clear e4 hcT hcU ex ey
          generalize L k = lk at *
          generalize G k = gk at *
          go_wp2
          (refine wp_region_cls (by kernel_rfl) (by kernel_rfl) ?_; (repeat (go_big_quiet_step (fail))); refine wpQuiet_nil ?_; rintro _ ⟨u, rfl⟩; have hb := u.below; replace hB := hB.trans (hb.mono hB.size); generalize u.w = w' at *; obtain ⟨hc, hf, hs⟩ := bkeep hb; have hq' := hb.size; have hq := hB.size; have hb' := hb; clear hb)
          clear ct0 ct1 ct2 cu0 cu1 cu2 x0 x1 y0 y1 lb1 lb2 lb3 lb4 hc hf hs hq'
          replace hP := hP.below hb'
          replace hU := hU.below hb'
          replace HH := HH.below hb'
          clear hb'
          go_wp2
          go_roundw
          case rel => exact ⟨k + 1, by omega, by go_num, hP, hU, HH, hB⟩
          case measure => simp [intOf]; omega
        · obtain rfl : k = n := by omega
          clear e4
          have kv := fun W => impl_ValidProfile pa pr pc py W
          rw [HPR.out] at kv
          have kb := fun W => impl_ValidBrake d f W
          rw [HVB.out] at kb
          have kc := fun W => impl_ValidControl m o a b e W
          rw [HVM.out] at kc
          have cq0 : wr.cell? ⟨Q, 0, none⟩ = some (.int .i64 pa) := HH.get 21 _ rfl
          have cq1 : wr.cell? ⟨Q, 1, none⟩ = some (.int .i64 pr) := HH.get 22 _ rfl
          have cq2 : wr.cell? ⟨Q, 2, none⟩ = some (.int .i64 pc) := HH.get 23 _ rfl
          have cq3 : wr.cell? ⟨Q, 3, none⟩ = some (.int .i64 py) := HH.get 24 _ rfl
          go_wp2_with fail
          refine (kv _).mono ?_
          rintro e0 y1 ⟨rfl, hb⟩
          clear cq0 cq1 cq2 cq3 kv
          replace HH := HH.below hb
          replace hB := hB.trans (hb.mono hB.size)
          clear hb
          have cb0 : y1.cell? ⟨B, 0, none⟩ = some (.int .i64 d) := HH.get 19 _ rfl
          have cb1 : y1.cell? ⟨B, 1, none⟩ = some (.int .i64 f) := HH.get 20 _ rfl
          go_wp2_with fail
          refine (kb _).mono ?_
          rintro e0 y2 ⟨rfl, hb⟩
          clear cb0 cb1 kb
          replace HH := HH.below hb
          replace hB := hB.trans (hb.mono hB.size)
          clear hb
          have cc0 : y2.cell? ⟨C, 0, none⟩ = some (.int .i64 m) := HH.get 14 _ rfl
          have cc1 : y2.cell? ⟨C, 1, none⟩ = some (.bool o) := HH.get 15 _ rfl
          have cc2 : y2.cell? ⟨C, 2, none⟩ = some (.bool a) := HH.get 16 _ rfl
          have cc3 : y2.cell? ⟨C, 3, none⟩ = some (.bool b) := HH.get 17 _ rfl
          have cc4 : y2.cell? ⟨C, 4, none⟩ = some (.bool e) := HH.get 18 _ rfl
          go_wp2_with fail
          refine (kc _).mono ?_
          rintro e0 y3 ⟨rfl, hb⟩
          clear cc0 cc1 cc2 cc3 cc4 kc
          replace HH := HH.below hb
          replace hB := hB.trans (hb.mono hB.size)
          clear hb
          go_wp2_with fail
          go_returns
          exact ⟨rfl, hB⟩
  · have hor : (decide (1048576 < n0) || decide (1048576 < n1)) = true := by
      rw [Bool.or_eq_true, decide_eq_true_eq, decide_eq_true_eq]; omega
    rw [hor] at kl
    go_enter Tryz.func3, Tryz.ntmps3
    go_wp2_with (go_at_call 4; (with_reducible refine (kl _).mono ?_); rintro e w' ⟨rfl, rfl⟩)
    go_returns
    exact ⟨rfl, Below.refl _ _⟩

end Go.Proofs.YteccpafoojkmjaaGreatDoor
namespace Go.Proofs.YteccpafoojkmjaaGreatDoor.rowFnTexts
open Go.ChangeShapes Go.WideShapes Go.ChangeAt Go.RowKit Go.Joins
open Go.ChangeMaps (open_string shut_string)
set_option linter.unusedVariables false

theorem own : ownKnob Tryz.prog.godebug = none := by kernel_rfl
theorem laidOut : laidOutB Tryz.prog = true := by kernel_rfl

theorem pow_type : (Tryz.prog.globals[3]?).map (·.type) = some 139 := by kernel_rfl
theorem pow_of {W : World} (h : laidMetH Tryz.prog Rows.fnTextsRow.laid W) : PowAt W := by
  rw [MakeChecks.laidMetH_plain _ _ _ (by kernel_rfl)] at h
  exact Go.Lib.tabIs_of_head pow_global pow_type Tryz.underlying139 Tryz.underlying76 (by kernel_rfl) (by kernel_rfl) (show laidMet Tryz.prog ((_, Go.Lib.tabData .u64 Go.Lib.pow10Tab) :: _) W from laidMet.tail (laidMet.tail (h)))
theorem star : "*" ++ "errors.errorString" = "*errors.errorString" := by decide
theorem row_err (u : TypeId) (h : Tryz.prog.typeName? 3 u = some "*errors.errorString") : u = 147 :=
  typeName_ptr_named (nm := "errors.errorString") (by rw [star]; kernel_rfl) (by kernel_rfl) (by decide) u (by rw [star]; exact h)
theorem rng_type : (Tryz.prog.globals[2]?).map (·.type) = some 87 := by kernel_rfl
theorem syn_type : (Tryz.prog.globals[1]?).map (·.type) = some 87 := by kernel_rfl
theorem cells_e : Tryz.prog.cellsOf 149 = 1 := by kernel_rfl
theorem cells_s : Tryz.prog.cellsOf 9 = 1 := by kernel_rfl
theorem rng_of {W : World} (h : laidMet Tryz.prog Rows.fnTextsRow.laid W) : ErrAt "strconv.ErrRange" W := by
  obtain ⟨a, s, hv, _⟩ := laid_sentinel (show laidMet Tryz.prog ((_, .iface "*errors.errorString" (.ptr (.agg [.lit (.string [118, 97, 108, 117, 101, 32, 111, 117, 116, 32, 111, 102, 32, 114, 97, 110, 103, 101])]))) :: _) W from laidMet.tail (laidMet.tail (laidMet.tail (laidMet.tail (h))))) rng_global rng_type Tryz.underlying87 row_err Tryz.underlying147 Tryz.underlying149 rfl rfl Tryz.underlying9 cells_e cells_s
  exact ⟨_, _, hv⟩
theorem syn_of {W : World} (h : laidMet Tryz.prog Rows.fnTextsRow.laid W) : ErrAt "strconv.ErrSyntax" W := by
  obtain ⟨a, s, hv, _⟩ := laid_sentinel (show laidMet Tryz.prog ((_, .iface "*errors.errorString" (.ptr (.agg [.lit (.string [105, 110, 118, 97, 108, 105, 100, 32, 115, 121, 110, 116, 97, 120])]))) :: _) W from laidMet.tail (laidMet.tail (laidMet.tail (laidMet.tail (laidMet.tail (h)))))) syn_global syn_type Tryz.underlying87 row_err Tryz.underlying147 Tryz.underlying149 rfl rfl Tryz.underlying9 cells_e cells_s
  exact ⟨_, _, hv⟩
theorem tabs_of {W : World} (h : laidMetH Tryz.prog Rows.fnTextsRow.laid W) : Tabs W := by
  have hp := pow_of h
  rw [MakeChecks.laidMetH_plain _ _ _ (by kernel_rfl)] at h
  exact ⟨hp, syn_of h, rng_of h⟩
theorem max_of {W : World} (h : W.ShapedOpen Tryz.prog) : MaxAt W :=
  cell_of_shapedOpen_int h (t := 3) (zero := #[.int .i64 0]) (of_decide_eq_true (by kernel_rfl)) (by kernel_rfl) rfl (by kernel_rfl) (by kernel_rfl) Tryz.underlying3

theorem handed_shaped {H : Type} {enc : TypeId × Value → H} {a : Assume} {C : Checked} {os : Os} {f : FuncId} {fn : Func} {s : ChangeSpec} {conds : List PathCond} {apart fresh handsOn again : Bool} {X : World → Array Value → Prop}
    (hX : ∀ (w w' : World) (args : Array Value), w.heap = w'.heap → X w args → X w' args)
    (own : ownKnob C.prog.godebug = none) (started : os.Started) (noInit : C.prog.inits.idxOf? f = none) (hfn : C.prog.funcs[f]? = some fn)
    (witness : ∃ (w : World) (tape : Tape) (i : Input), w.os = os ∧ (w.forCall tape i).Shaped C.prog ∧ i.vars = [] ∧ Input.okWide C.prog (w.forCall tape i) .any w.heap.size f i ∧
      ((s.pre enc C.prog fn conds apart (w.forCall tape i).memory i.args ∧ X (w.forCall tape i).memory i.args) ∧ sizedMet enc C.prog fn (OpenSpec.ofChange s) apart (w.forCall tape i).memory i.args) ∧ a.holds C.prog (lone (Frame.enter C.prog f i.args .normal) [] (w.forCall tape i)))
    (contract : ∀ (W : World) (base : Nat) (args : Array Value) (ds gs : List (DataW H)) (before : List MemPlace),
      (∀ (j : Nat) t v, fn.params[j]? = some t → args[j]? = some v → Value.okWide C.prog W .any base t v) →
      DataW.Whole enc C.prog fn.params.toList s.vars apart W args.toList ds gs before →
      W.ShapedOpen C.prog → X W args →
      Calls C.prog f args W fun e W' => ∃ v, e = .returned v ∧ s.post enc C.prog fn apart fresh handsOn again W args v W') :
    ReturnsInHanded a C os f .any (fun w args => (s.pre enc C.prog fn conds apart w args ∧ X w args) ∧ sizedMet enc C.prog fn (OpenSpec.ofChange s) apart w args) (s.post enc C.prog fn apart fresh handsOn again) := by
  refine returnsInHanded_of_calls own started noInit witness ?_
  intro w tape i _ hsh _ hok hpre hholds
  obtain ⟨_, _, _, fn', hfn', _, _, _, _, hval⟩ := hok
  have e : fn' = fn := Option.some.inj (hfn'.symm.trans hfn)
  subst e
  obtain ⟨⟨⟨ds, gs, before, hw, hc⟩, hx⟩, hz⟩ := hpre
  have hw' := DataW.Whole.of_heap (w' := w.forCall tape i) (by rfl) hw
  refine (contract (w.forCall tape i) w.heap.size i.args ds gs before hval hw' hsh (hX _ _ _ (by rfl) hx)).mono fun e W' ⟨v, he, hp⟩ => ?_
  subst he
  exact ChangeSpec.post_blind hp

set_option maxRecDepth 100000 in
theorem lifted (os : Os) (started : os.Started) (H : Type) (enc : TypeId × Value → H) :
    ReturnsInHanded {} Tryz.checked os 3 .any (fun w args => (Rows.fnTextsSpec.pre enc Tryz.prog Tryz.f3 [] false w args ∧ laidMetH Tryz.prog Rows.fnTextsRow.laid w) ∧ sizedMet enc Tryz.prog Tryz.f3 (OpenSpec.ofChange Rows.fnTextsSpec) false w args)
      (Rows.fnTextsSpec.post enc Tryz.prog Tryz.f3 false true false false) := by
  refine handed_shaped (C := Tryz.checked) (X := fun w _ => laidMetH Tryz.prog Rows.fnTextsRow.laid w) (fun _ _ _ hh h => h.of_heap hh) own started (by kernel_rfl) Tryz.func3
    (ChangeSpec.witness_shaped (enc := enc) (C := Tryz.checked) (os := os) (X := fun w _ => laidMetH Tryz.prog Rows.fnTextsRow.laid w) false (World.laidAll Tryz.prog os Rows.fnTextsRow.laid) #[.slice none 0 0, .slice none 0 0] 8 (World.laidAll_os _ _ _) (World.shaped_of_ZipB (by kernel_rfl) (by kernel_rfl)) (by kernel_rfl) (by kernel_rfl) (by kernel_rfl) (by rw [MakeChecks.laidMetH_plain _ _ _ (by kernel_rfl)]; exact laidMet_laidAll _ (by kernel_rfl) (by kernel_rfl))) ?_
  intro W base args ds gs before hval0 hW hS hL
  have hval : ∀ (j : Nat) t v, Tryz.f3.params[j]? = some t → args[j]? = some v → Value.okWide Tryz.prog W .any base t v := hval0
  have hW' := hW
  obtain ⟨p, q, hA0, hV, rfl, hfz, hnd⟩ := hW
  have hA : DataW.TrodAll enc Tryz.prog W 0 (fun _ => true) true Tryz.f3.params.toList args.toList ds p := hA0
  rw [Tryz.params3] at hA hval
  obtain ⟨v0, vs0, d0, ds0, p0, q0, hargs, rfl, rfl, h0, r0⟩ := trodAll_cons hA
  obtain ⟨v1, vs1, d1, ds1, p1, q1, rfl, rfl, rfl, h1, r1⟩ := trodAll_cons r0
  obtain ⟨rfl, rfl, rfl⟩ := trodAll_nil r1
  obtain rfl : args = #[v0, v1] := by cases args; simp_all
  obtain ⟨rfl, rfl⟩ := trodVars_none hV
  have k0 := h0
  have lt0 : ∀ x ∈ p0, x.block < W.heap.size := by obtain ⟨m, hm⟩ := k0; exact DataW.trod_lt m _ _ _ hm
  have k1 := h1
  have lt1 : ∀ x ∈ p1, x.block < W.heap.size := by obtain ⟨m, hm⟩ := k1; exact DataW.trod_lt m _ _ _ hm
  obtain ⟨a0, len0, cap0, rfl⟩ := okWide_slice Tryz.underlying22 (hval 0 22 v0 rfl rfl)
  have wz0 := bytes_open Tryz.underlying22 Tryz.underlying5 (by kernel_rfl) h0
  obtain ⟨a1, len1, cap1, rfl⟩ := okWide_slice Tryz.underlying22 (hval 1 22 v1 rfl rfl)
  have wz1 := bytes_open Tryz.underlying22 Tryz.underlying5 (by kernel_rfl) h1
  clear hA0 hval0
  refine (law_FnTexts a0 len0 cap0 a1 len1 cap1 W wz0 wz1 (tabs_of hL) (max_of hS)).mono fun e W' ⟨he, bel⟩ => ?_
  subst he
  exact ⟨_, rfl, _, _, _, [], _, [], hW', trodAll_mk1 (shut_bool Tryz.underlying4 _), (trodAll_cons_mk (Below.trod laidOut (by kernel_rfl) (of_decide_eq_true (by kernel_rfl)) k0 bel lt0) (trodAll_cons_mk (Below.trod laidOut (by kernel_rfl) (of_decide_eq_true (by kernel_rfl)) k1 bel lt1) trodAll_mk0)), rfl, bel.frame _, fun h => by cases h⟩

theorem bare : Rows.FnTextsSaid :=
  OpenClaim.holds_of_wide 3 Tryz.f3 rfl rfl rfl rfl rfl rfl rfl ⟨rfl, rfl, rfl, rfl, rfl⟩ rfl rfl rfl rfl rfl (by kernel_rfl) Tryz.func3 (by kernel_rfl)
    (of_decide_eq_true (by kernel_rfl)) (by unfold Func.isWrapper; first | (rw [if_pos (by decide +kernel)]; kernel_rfl) | (rw [if_neg (by decide +kernel)]; exact ⟨rfl, rfl⟩))
    (fun os started H enc _ => lifted os started H enc)
/-- THE STATEMENT. -/
theorem proved : Rows.FnTextsCardSaid :=
  Claim7.holds_tied_plain_at .later [] [.data, .data, .data, .data, .sentinel, .sentinel, .pinned] true (true, "5af62c2ac3055ca809cbaf115a114b1c4d85c164b144494ba9a4a1ad70011f38") true
    bare (fun _ h => by cases h) (by kernel_rfl) (fun _ h => by cases h) fnTexts_row_tie rfl ⟨rfl, rfl⟩ (by kernel_rfl) rfl
    (fun f fn hf hfn => by
      obtain rfl : f = 3 := Option.some.inj ((show Tryz.prog.funcNamed Rows.fnTextsRow.func = some 3 by kernel_rfl).symm.trans hf) |>.symm
      obtain rfl : fn = Tryz.f3 := (Option.some.inj (Tryz.func3.symm.trans hfn)).symm
      exact ⟨by kernel_rfl, fun j t ht => by
        rw [Tryz.params3] at ht
        rcases j with _ | j
        · have h3 : t = 22 := by simpa using ht.symm
          subst h3
          exact (show Tryz.prog.wantsStandIn 22 = false by kernel_rfl)
        ·
          rcases j with _ | j
          · have h3 : t = 22 := by simpa using ht.symm
            subst h3
            exact (show Tryz.prog.wantsStandIn 22 = false by kernel_rfl)
          · simp at ht⟩)
    (by kernel_rfl)
#print axioms proved
end Go.Proofs.YteccpafoojkmjaaGreatDoor.rowFnTexts
