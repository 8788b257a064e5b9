/-
  Contracts: the times in which too few workers are there.
-/
import Derived.Test.YtngeaojimehlbaaNe
import Derived.Test.YtngeaojimehlbaaKB3
namespace Go.Proofs.Ytngeaojimehlbaa
open Go.RowKit
set_option linter.unusedVariables false
set_option linter.unusedSimpArgs false


/-- The slice value v holds the pairs L, its rows from block B on. -/
def NestB (B : Nat) (w : World) (v : Value) (L : List (Int × Int)) : Prop :=
  ∃ G : Nat → Nat, w.ownsRow B 34 1 v L.length ((List.range L.length).map fun j => Value.slice (some ⟨G j, 0, none⟩) 2 2) ∧
    (∀ j, j < L.length → B ≤ G j ∧ w.heap[G j]? = some (prO (L.getD j (0, 0)))) ∧ ∀ i j, i < L.length → j < L.length → G i = G j → i = j
theorem blk_lt {w : World} {g : Nat} {o : Obj} (h : w.heap[g]? = some o) : g < w.heap.size := by
  rcases Nat.lt_or_ge g w.heap.size with h1 | h1
  · exact h1
  · rw [Array.getElem?_eq_none h1] at h; cases h
theorem NestB.nil (B : Nat) (w : World) : NestB B w (.slice none 0 0) [] := ⟨fun _ => 0, World.ownsRow_nil w B _ 1, fun j hj => absurd hj (by simp), fun i j hi => absurd hi (by simp)⟩
theorem NestB.made {B : Nat} {w : World} (h : B ≤ w.heap.size) : NestB B (w.alloc (.cells #[] 34)) (.slice (some ⟨w.heap.size, 0, none⟩) 0 0) [] :=
  ⟨fun _ => 0, World.ownsRow_made w #[] 0 h (by decide) rfl, fun j hj => absurd hj (by simp), fun i j hi => absurd hi (by simp)⟩
theorem NestB.below {B : Nat} {w w' : World} {v : Value} {L : List (Int × Int)} (h : NestB B w v L) (hb : Below w.heap.size w w') : NestB B w' v L := by
  obtain ⟨G, h1, h2, h3⟩ := h
  exact ⟨G, World.ownsRow.kept (row := none) h1 ⟨hb.os, hb.tape, hb.output, hb.size, fun k hk _ => hb.block k hk⟩ (by cases hv : v.ownBlock <;> simp), fun j hj => ⟨(h2 j hj).1, (hb.block _ (blk_lt (h2 j hj).2)).trans (h2 j hj).2⟩, h3⟩
theorem NestB.shape {B : Nat} {w : World} {v : Value} {L : List (Int × Int)} (h : NestB B w v L) : ∃ a c, v = .slice a L.length c := by
  obtain ⟨G, h1, h2, h3⟩ := h
  obtain ⟨a, c, e, _⟩ := own_outN h1
  exact ⟨a, c, e⟩
theorem pr_own {w : World} {g : Nat} {p : Int × Int} (h : w.heap[g]? = some (prO p)) : OwnIn g (g + 1) w (some ⟨g, 0, none⟩) 2 (prV p) := fun _ =>
  ⟨g, rfl, Nat.le_refl _, Nat.lt_succ_self _, blk_lt h, fun j hj => by
    refine ⟨?_, ?_⟩
    · rw [cell_of_row w g j _ _ (0, 0) h]
      have : j = 0 ∨ j = 1 := by omega
      rcases this with rfl | rfl <;> rfl
    · unfold World.frozen?
      rw [show w.heap[(⟨g, j, none⟩ : Addr).block]? = _ from h]
      simp [prO]⟩
theorem NestB.out {B : Nat} {w : World} {v : Value} {L : List (Int × Int)} (h : NestB B w v L) : ∃ a c, v = .slice a L.length c ∧ NestV B w.heap.size w a L.length (fun j => prV (L.getD j (0, 0))) := by
  obtain ⟨G, h1, h2, h3⟩ := h
  obtain ⟨a, c, e, ho⟩ := own_outN h1
  refine ⟨a, c, e, fun hn => ?_⟩
  obtain ⟨g0, rfl, k1, k2, k3, k4⟩ := ho (by omega)
  refine ⟨g0, G, rfl, k1, k2, fun _ => ⟨g0, rfl, Nat.le_refl _, Nat.lt_succ_self _, k3, fun j hj => ?_⟩, fun j hj => ⟨(h2 j hj).1, blk_lt (h2 j hj).2, fun e2 => ?_, pr_own (h2 j hj).2⟩, h3⟩
  · obtain ⟨c1, c2⟩ := k4 j (by omega)
    refine ⟨?_, c2⟩
    rw [c1]
    simp [hj]
  · rcases h1.2 with ⟨e3, _⟩ | ⟨g, cap, cur, e3, _, hg, _⟩
    · rw [e3] at e; cases e
    · rw [e3] at e
      obtain ⟨e4, _, _⟩ := Value.slice.inj e
      obtain rfl : g = g0 := congrArg (fun x : Option Addr => x.elim 0 Addr.block) e4
      have := (h2 j hj).2
      rw [e2, hg] at this
      injection this with this
      unfold prO at this
      injection this with _ h _
      exact absurd h (by decide)
theorem two_alloc (w : World) (o1 o2 : Obj) : ((w.alloc o1).alloc o2).heap[w.heap.size]? = some o1 := by
  show ((w.heap.push o1).push o2)[w.heap.size]? = some o1
  simp [Array.getElem?_push]
/-- append of one pair's slice. -/
theorem app_pair {ops : Array Oper} {rest : List Oper} {o : Oper} {a : Act} {Q : Exit → Act → World → Prop} (w : World) (hgd : o.guard = none) (s x : Operand)
    (ho : o.op = .call { callee := .builtin .append, args := #[s, x], argTypes := #[24, 24] }) (B : Nat) (v : Value) (L : List (Int × Int)) (hs : a.eval s = v) (w0 : World) (hN : NestB B w0 v L) (hb : Below w0.heap.size w0 w) (hB : B ≤ w0.heap.size)
    (g g1 c : Nat) (p : Int × Int) (hx : a.eval x = .slice (some ⟨g1, 0, none⟩) 1 c) (hg : w.cell? ⟨g1, 0, none⟩ = some (.slice (some ⟨g, 0, none⟩) 2 2)) (hgo : w.heap[g]? = some (prO p)) (hg0 : w0.heap.size ≤ g) (hlen : L.length ≤ 16777216)
    (h : ∀ v' w', NestB B w' v' (L ++ [p]) → Below B w w' → wpList Try.prog ops Q rest (a.put o.dst v') w') : wpList Try.prog ops Q (o :: rest) a w := by
  have hN2 := hN
  obtain ⟨G, h1, h2, h3⟩ := hN2
  have h1' : w.ownsRow B 34 1 v L.length ((List.range L.length).map fun j => Value.slice (some ⟨G j, 0, none⟩) 2 2) :=
    World.ownsRow.kept (row := none) h1 ⟨hb.os, hb.tape, hb.output, hb.size, fun k hk _ => hb.block k hk⟩ (by cases hv : v.ownBlock <;> simp)
  have hgl := blk_lt hgo
  refine app_cells 24 34 (.slice none 0 0) 1 24 (by kernel_rfl) Try.underlying24 rfl (by decide) (by decide) w hgd s x ho B v L.length _ hs h1' g1 c [.slice (some ⟨g, 0, none⟩) 2 2] hx rfl ?_ ?_ hlen (by have := hb.size; omega) ?_
  · intro j u hj
    cases j with
    | zero => simp at hj; subst hj; exact hg
    | succ j => simp at hj
  · intro u hu; simp at hu; subst hu; rfl
  · intro v' w' k1 k2 k3
    have hno : ∀ b p', w.heap[b]? = some (prO p') → w'.heap[b]? = some (prO p') := fun b p' hbp => by
      refine (k3 b (blk_lt hbp) fun e => ?_).trans hbp
      rcases h1'.2 with ⟨rfl, _⟩ | ⟨b1, c1, u1, rfl, _, m1, _⟩
      · simp [Value.ownBlock] at e
      · simp only [Value.ownBlock, Option.some.injEq] at e
        subst e
        rw [m1] at hbp
        injection hbp with hbp
        unfold prO at hbp
        injection hbp with _ h _
        exact absurd h (by decide)
    refine h v' w' ⟨fun j => if j < L.length then G j else g, ?_, ?_, ?_⟩ k2
    · rw [List.length_append, List.length_singleton]
      have e : (List.range (L.length + 1)).map (fun j => Value.slice (some ⟨if j < L.length then G j else g, 0, none⟩) 2 2) = ((List.range L.length).map fun j => Value.slice (some ⟨G j, 0, none⟩) 2 2) ++ [.slice (some ⟨g, 0, none⟩) 2 2] := by
        rw [List.range_succ, List.map_append]
        congr 1
        · exact List.map_congr_left fun j hj => by rw [if_pos (List.mem_range.1 hj)]
        · simp
      rw [e]; exact k1
    · intro j hj
      rw [List.length_append, List.length_singleton] at hj
      dsimp only
      by_cases hjl : j < L.length
      · rw [if_pos hjl]
        refine ⟨(h2 j hjl).1, ?_⟩
        rw [List.getD_eq_getElem?_getD, List.getElem?_append_left hjl, ← List.getD_eq_getElem?_getD]
        exact hno _ _ ((hb.block _ (blk_lt (h2 j hjl).2)).trans (h2 j hjl).2)
      · obtain rfl : j = L.length := by omega
        rw [if_neg hjl]
        refine ⟨by omega, ?_⟩
        rw [List.getD_eq_getElem?_getD, List.getElem?_append_right (Nat.le_refl _)]
        simp only [Nat.sub_self, List.getElem?_cons_zero, Option.getD_some]
        exact hno _ _ hgo
    · intro i j hi hj he
      rw [List.length_append, List.length_singleton] at hi hj
      dsimp only at he
      by_cases hil : i < L.length <;> by_cases hjl : j < L.length
      · rw [if_pos hil, if_pos hjl] at he; exact h3 i j hil hjl he
      · rw [if_pos hil, if_neg hjl] at he
        have := blk_lt (h2 i hil).2
        omega
      · rw [if_neg hil, if_pos hjl] at he
        have := blk_lt (h2 j hjl).2
        omega
      · omega
/-- The last pair: where it lies, and its second number set anew; in each world that keeps what was there. -/
theorem NestB.last {B : Nat} {w : World} {v : Value} {L : List (Int × Int)} {x y : Int} (h : NestB B w v (L ++ [(x, y)])) :
    ∃ g0 c q, v = .slice (some ⟨g0, 0, none⟩) (L.length + 1) c ∧ ∀ W, Below w.heap.size w W → g0 < W.heap.size ∧ W.cell? ⟨g0, L.length, none⟩ = some (.slice (some ⟨q, 0, none⟩) 2 2) ∧ q < W.heap.size ∧ B ≤ q ∧ W.cell? ⟨q, 1, none⟩ = some (.int .i64 y) ∧ W.frozen? ⟨q, 1, none⟩ = false ∧
      ∀ m, NestB B (W.setCell ⟨q, 1, none⟩ (.int .i64 m)) v (L ++ [(x, m)]) := by
  have hl : (L ++ [(x, y)]).length = L.length + 1 := by simp
  obtain ⟨G, h1, h2, h3⟩ := h
  rw [hl] at h1 h2 h3
  have hlt : L.length < L.length + 1 := by omega
  have hgd : (L ++ [(x, y)]).getD L.length (0, 0) = (x, y) := by simp [List.getD_eq_getElem?_getD]
  rcases h1.2 with ⟨_, e3⟩ | ⟨g0, cap, cur, e3, hB0, hg0, hcap, hmx, hsz, htk⟩
  · omega
  · refine ⟨g0, cap, G L.length, e3, fun W hW => ?_⟩
    replace h1 : W.ownsRow B 34 1 v (L.length + 1) ((List.range (L.length + 1)).map fun j => Value.slice (some ⟨G j, 0, none⟩) 2 2) :=
      World.ownsRow.kept (row := none) h1 ⟨hW.os, hW.tape, hW.output, hW.size, fun k hk _ => hW.block k hk⟩ (by cases hv : v.ownBlock <;> simp)
    replace h2 : ∀ j, j < L.length + 1 → B ≤ G j ∧ W.heap[G j]? = some (prO ((L ++ [(x, y)]).getD j (0, 0))) := fun j hj => ⟨(h2 j hj).1, (hW.block _ (blk_lt (h2 j hj).2)).trans (h2 j hj).2⟩
    have hg := (hW.block _ (blk_lt hg0)).trans hg0
    have hr := (h2 L.length hlt)
    rw [hgd] at hr
    have hne : ∀ j, j < L.length + 1 → G j ≠ g0 := fun j hj e2 => by
      have := (h2 j hj).2
      rw [e2, hg] at this
      injection this with this
      unfold prO at this
      injection this with _ h _
      exact absurd h (by decide)
    subst e3
    have hcell : W.cell? ⟨g0, L.length, none⟩ = some (.slice (some ⟨G L.length, 0, none⟩) 2 2) := by
      rw [h1.cellAt L.length (by omega)]
      simp
    have ho := pr_own hr.2
    have hset : ∀ m k, k ≠ G L.length → (W.setCell ⟨G L.length, 1, none⟩ (.int .i64 m)).heap[k]? = W.heap[k]? := fun m k hk => Below.heap_setCell W ⟨G L.length, 1, none⟩ _ k (fun e => hk e)
    refine ⟨blk_lt hg, hcell, blk_lt hr.2, hr.1, ho.at (show 1 < 2 by omega), ?_, fun m => ⟨G, ?_, ?_, ?_⟩⟩
    · unfold World.frozen?
      rw [show W.heap[(⟨G L.length, 1, none⟩ : Addr).block]? = _ from hr.2]
      simp [prO]
    · rw [show (L ++ [(x, m)]).length = L.length + 1 by simp]
      refine ownsRow_blk h1 fun g hg' => ?_
      obtain rfl : g0 = g := by simpa [Value.ownBlock] using hg'
      exact hset m _ (fun e => hne L.length hlt e.symm)
    · intro j hj
      rw [show (L ++ [(x, m)]).length = L.length + 1 by simp] at hj
      refine ⟨(h2 j hj).1, ?_⟩
      by_cases hjl : j < L.length
      · rw [hset m _ (fun e => by have := h3 j L.length hj hlt e; omega)]
        have := (h2 j hj).2
        rw [List.getD_eq_getElem?_getD, List.getElem?_append_left hjl, ← List.getD_eq_getElem?_getD] at this ⊢
        exact this
      · obtain rfl : j = L.length := by omega
        have hgm : (L ++ [(x, m)]).getD L.length (0, 0) = (x, m) := by simp [List.getD_eq_getElem?_getD]
        rw [hgm]
        have h9 := hr.2
        have hlq := blk_lt h9
        unfold World.setCell
        unfold prO at h9 ⊢
        simp [Array.getElem?_modify, h9]
    · rw [show (L ++ [(x, m)]).length = L.length + 1 by simp]; exact h3

def alStep (L : List (Int × Int)) (m : Int) : List (Int × Int) := if L ≠ [] ∧ (L.getLastD (0, 0)).2 = m then L.dropLast ++ [((L.getLastD (0, 0)).1, m + 1)] else L ++ [(m, m + 1)]
def alL (F U : Nat → Int) (n : Nat) (least f : Int) : Nat → List (Int × Int)
  | 0 => []
  | k + 1 => if least ≤ (atL F U (f + k) n).length then alL F U n least f k else alStep (alL F U n least f k) (f + k)
theorem alStep_len (L : List (Int × Int)) (m : Int) : (alStep L m).length ≤ L.length + 1 := by
  unfold alStep
  split
  · rename_i h
    have := List.length_pos_iff.2 h.1
    rw [List.length_append, List.length_dropLast, List.length_singleton]; omega
  · simp
theorem alL_len (F U : Nat → Int) (n : Nat) (least f : Int) : ∀ k, (alL F U n least f k).length ≤ k
  | 0 => Nat.le_refl _
  | k + 1 => by
    have ih := alL_len F U n least f k
    unfold alL
    split
    · omega
    · have := alStep_len (alL F U n least f k) (f + k); omega
section
variable {F U : Nat → Int} {n k : Nat} {least f : Int}
theorem al_skip (h : least ≤ (atL F U (f + k) n).length) : alL F U n least f (k + 1) = alL F U n least f k := by
  show (if _ then _ else _) = _; rw [if_pos h]
theorem al_none (h : ¬ least ≤ (atL F U (f + k) n).length) (he : alL F U n least f k = []) : alL F U n least f (k + 1) = [] ++ [(f + k, f + k + 1)] := by
  show (if _ then _ else _) = _; rw [if_neg h, he]; rfl
theorem al_new {L : List (Int × Int)} {x y : Int} (h : ¬ least ≤ (atL F U (f + k) n).length) (he : alL F U n least f k = L ++ [(x, y)]) (hy : y ≠ f + k) : alL F U n least f (k + 1) = (L ++ [(x, y)]) ++ [(f + k, f + k + 1)] := by
  show (if _ then _ else _) = _
  rw [if_neg h, he]
  unfold alStep
  rw [if_neg (by simp [hy])]
theorem al_more {L : List (Int × Int)} {x y : Int} (h : ¬ least ≤ (atL F U (f + k) n).length) (he : alL F U n least f k = L ++ [(x, y)]) (hy : y = f + k) : alL F U n least f (k + 1) = L ++ [(x, f + k + 1)] := by
  show (if _ then _ else _) = _
  rw [if_neg h, he]
  unfold alStep
  rw [if_pos (by simp [hy])]
  simp
end
def alC (I : Nat → ByteArray) (F U : Nat → Int) (n : Nat) (f t least : Int) : Int := staffC (validW I F U n) (spanB f t && inB least 1 12)
def alR (I : Nat → ByteArray) (F U : Nat → Int) (n : Nat) (f t least : Int) : List (Int × Int) := if alC I F U n f t least = 0 then alL F U n least f (t - f).toNat else []
theorem alR_len {I : Nat → ByteArray} {F U : Nat → Int} {n : Nat} {f t least : Int} : (alR I F U n f t least).length ≤ 1048576 := by
  unfold alR
  split
  · rename_i h
    have hs : spanB f t = true := by
      cases hs : spanB f t
      · unfold alC at h; rw [hs] at h; cases hv : validW I F U n <;> rw [hv] at h <;> simp [staffC] at h
      · rfl
    have := spanB_at hs
    have := alL_len F U n least f (t - f).toNat
    omega
  · simp
/-- A call gives back a list of pairs in rows of its own, and a code. -/
def RetNest (L : List (Int × Int)) (code : Int) (w : World) (e : Ending) (w' : World) : Prop :=
  ∃ a c, e = .returned (.tuple #[.slice a L.length c, .int .i64 code]) ∧ NestV w.heap.size w'.heap.size w' a L.length (fun j => prV (L.getD j (0, 0))) ∧ Below w.heap.size w w'
theorem NestB.ret0 {w w0 w' : World} {v : Value} {L : List (Int × Int)} {code : Int} (h : NestB w0.heap.size w' v L) (h0 : Below w.heap.size w w0) (hb : Below w0.heap.size w0 w') : RetNest L code w (.returned (.tuple #[v, .int .i64 code])) w' := by
  obtain ⟨a, c, rfl, ho⟩ := h.out
  exact ⟨a, c, rfl, ho.mono h0.size (Nat.le_refl _), h0.trans (hb.mono h0.size)⟩
theorem retNest_none {w w' : World} {code : Int} (hb : Below w.heap.size w w') : RetNest [] code w (.returned (.tuple #[.slice none 0 0, .int .i64 code])) w' := ⟨none, 0, rfl, fun h => absurd h (by simp), hb⟩
theorem impl_size_i64 (a : Option Addr) (n c : Nat) (w : World) : Calls Try.prog 38 #[.slice a n c] w fun e w' => e = .returned (.int .i64 n) ∧ w = w' := by
  go_enter Try.func38, Try.ntmps38
  go_wp2
  go_ret
  exact ⟨rfl, rfl⟩
set_option maxHeartbeats 4000000 in
theorem impl_AloneMinutes (a : Option Addr) (n c : Nat) (I : Nat → ByteArray) (F U : Nat → Int) (f t least : Int) (w : World) (hW : WorkAt w a n I F U) (hn : szW I n ≤ 1048576) :
    Calls Try.prog 9 #[.slice a n c, .int .i64 f, .int .i64 t, .int .i64 least] w (RetNest (alR I F U n f t least) (alC I F U n f t least) w) := by
  have hn2 := szW_n hn
  have kp := fun W => impl_isSpan f t W
  have kw := fun W => impl_within least 1 12 W
  have ks := fun W h => impl_staffed a n c I F U (spanB f t && inB least 1 12) W h hn
  by_cases hC : alC I F U n f t least = 0
  · have hR : alR I F U n f t least = alL F U n least f (t - f).toNat := if_pos hC
    rw [hR]
    rw [show staffC (validW I F U n) (spanB f t && inB least 1 12) = 0 from hC] at ks
    have hs : spanB f t = true := by
      cases hs : spanB f t
      · unfold alC at hC; rw [hs] at hC; cases hv : validW I F U n <;> rw [hv] at hC <;> simp [staffC] at hC
      · rfl
    have hl : inB least 1 12 = true := by
      cases hl : inB least 1 12
      · unfold alC at hC; rw [hs, hl] at hC; cases hv : validW I F U n <;> rw [hv] at hC <;> simp [staffC] at hC
      · rfl
    obtain ⟨f0, f1, t0, t1, ft⟩ := spanB_at hs
    rw [hC]
    rw [hs, hl] at ks
    rw [hs] at kp
    rw [hl] at kw
    clear hC hR hs hl
    go_enter Try.func9, Try.ntmps9
    go_wp2_with (first | (go_at_call 36; (with_reducible refine (kp _).mono ?_); rintro e w' ⟨rfl, rfl⟩) | (go_at_call 37; (with_reducible refine (kw _).mono ?_); rintro e w' ⟨rfl, rfl⟩) | fail)
    refine (ks _ hW).mono ?_
    rintro e w0 ⟨rfl, hb0⟩
    have hW0 := hW.below hb0
    have h00 := hb0.size
    clear ks kp kw
    go_wp2
    go_loopw [11, 12] (fun sv mv wr => ∃ k : Nat, (k : Int) ≤ t - f ∧ mv = .int .i64 (f + k) ∧ NestB w0.heap.size wr sv (alL F U n least f k) ∧ Below w0.heap.size w0 wr) (fun _ mv _ => (1440 - intOf mv).toNat)
    case atStart => exact ⟨0, by omega, by simp, NestB.nil _ _, Below.refl _ _⟩
    case round =>
      obtain ⟨k, hk, rfl, hN, hB⟩ := hrel
      have hq := hB.size
      by_cases hlt : f + k < t
      · have hWr := hW0.below hB
        have ka := fun W h => impl_workersAt a n c I F U (f + k) W h hn2
        have kz := fun a n c W => impl_size_i64 a n c W
        have hal := alL_len F U n least f k
        by_cases hle : least ≤ (atL F U (f + k) n).length
        · have HS := Lib.hid (al_skip hle)
          generalize alL F U n least f k = L at *
          generalize atL F U (f + k) n = A at *
          go_wp2_with (first | (go_at_call 39; (with_reducible refine (ka _ hWr).mono ?_); rintro e w1 ⟨a1, c1, rfl, _, hb1⟩) | (go_at_call 38; (with_reducible refine ((kz _ _ _ _)).mono ?_); rintro e w' ⟨rfl, rfl⟩))
          go_roundw
          case rel => exact ⟨k + 1, by omega, by congr 1; omega, by rw [HS.out]; exact hN.below hb1, hB.trans (hb1.mono hq)⟩
          case measure => simp [intOf]; omega
        · have H0 := Lib.hid (al_none (F := F) (U := U) (n := n) (k := k) hle)
          have HN := Lib.hid (fun L x y => al_new (F := F) (U := U) (n := n) (k := k) (L := L) (x := x) (y := y) hle)
          have HM := Lib.hid (fun L x y => al_more (F := F) (U := U) (n := n) (k := k) (L := L) (x := x) (y := y) hle)
          generalize alL F U n least f k = L at *
          generalize atL F U (f + k) n = A at *
          rcases List.eq_nil_or_concat L with rfl | ⟨L', ⟨x, y⟩, rfl⟩
          · obtain ⟨a9, c9, rfl⟩ := hN.shape
            go_wp2_with (first | (go_at_call 39; (with_reducible refine (ka _ hWr).mono ?_); rintro e w1 ⟨a1, c1, rfl, _, hb1⟩; have e1 := hb1.size) | (go_at_call 38; (with_reducible refine ((kz _ _ _ _)).mono ?_); rintro e w' ⟨rfl, rfl⟩) | (at_builtin; refine app_pair _ rfl _ _ rfl w0.heap.size _ _ rfl w1 (hN.below hb1) (by go_grown) (by have := hb1.size; omega) w1.heap.size (w1.heap.size + 1) 1 (f + k, f + k + 1) rfl (by go_cell) (two_alloc _ _ _) (Nat.le_refl _) (Nat.le_trans hal (by omega)) ?_; intro v2 w2 hN2 hb2))
            go_roundw
            case rel => exact ⟨k + 1, by omega, by congr 1; omega, by rw [H0.out (by simp)]; exact hN2, ((hB.trans (hb1.mono hq)).alloc (by omega) _ |>.alloc (by simp; omega) _).trans hb2⟩
            case measure => simp [intOf]; omega
          · rw [List.concat_eq_append] at *
            have hll : (L' ++ [(x, y)]).length = L'.length + 1 := by simp
            by_cases hy : y = f + k
            · have HS := Lib.hid (HM.out L' x y rfl hy)
              obtain ⟨g0, cap, q, rfl, hLast⟩ := hN.last
              go_wp2_with (first | (go_at_call 39; (with_reducible refine (ka _ hWr).mono ?_); rintro e w1 ⟨a1, c1, rfl, _, hb1⟩; have e1 := hb1.size; obtain ⟨b0, c0, b1, hBq, c1, fz, hset⟩ := hLast _ hb1) | (go_at_call 38; (with_reducible refine ((kz _ _ _ _)).mono ?_); rintro e w' ⟨rfl, rfl⟩))
              go_roundw
              case rel => exact ⟨k + 1, by omega, by congr 1; omega, by rw [HS.out]; exact hset _, below_set (hB.trans (hb1.mono hq)) hBq⟩
              case measure => simp [intOf]; omega
            · have HS := Lib.hid (HN.out L' x y rfl hy)
              obtain ⟨g0, cap, q, rfl, hLast⟩ := hN.last
              go_wp2_with (first | (go_at_call 39; (with_reducible refine (ka _ hWr).mono ?_); rintro e w1 ⟨a1, c1, rfl, _, hb1⟩; have e1 := hb1.size; obtain ⟨b0, c0, b1, hBq, c1, fz, hset⟩ := hLast _ hb1) | (go_at_call 38; (with_reducible refine ((kz _ _ _ _)).mono ?_); rintro e w' ⟨rfl, rfl⟩) | (at_builtin; refine app_pair _ rfl _ _ rfl w0.heap.size _ _ rfl w1 (hN.below hb1) (by go_grown) (by have := hb1.size; omega) w1.heap.size (w1.heap.size + 1) 1 (f + k, f + k + 1) rfl (by go_cell) (two_alloc _ _ _) (Nat.le_refl _) (Nat.le_trans hal (by omega)) ?_; intro v2 w2 hN2 hb2))
              go_roundw
              case rel => exact ⟨k + 1, by omega, by congr 1; omega, by rw [HS.out]; exact hN2, ((hB.trans (hb1.mono hq)).alloc (by omega) _ |>.alloc (by simp; omega) _).trans hb2⟩
              case measure => simp [intOf]; omega
      · obtain rfl : t = f + k := by omega
        go_wp2
        go_returns
        have : (f + (k : Int) - f).toNat = k := by omega
        rw [this]
        exact hN.ret0 hb0 hB
  · have hR : alR I F U n f t least = [] := if_neg hC
    rw [hR]
    have ks' : ∀ W, WorkAt W a n I F U → Calls Try.prog 35 #[.slice a n c, .bool (spanB f t && inB least 1 12)] W fun e w' => e = .returned (.int .i64 (alC I F U n f t least)) ∧ Below W.heap.size W w' := ks
    generalize alC I F U n f t least = C at *
    clear ks hR
    cases hs : spanB f t <;> cases hl : inB least 1 12
    all_goals
      rw [hs] at kp
      rw [hl] at kw
      rw [hs, hl] at ks'
      clear hs hl
      go_enter Try.func9, Try.ntmps9
      go_wp2_with (first | (go_at_call 36; (with_reducible refine (kp _).mono ?_); rintro e w' ⟨rfl, rfl⟩) | (go_at_call 37; (with_reducible refine (kw _).mono ?_); rintro e w' ⟨rfl, rfl⟩) | fail)
      refine (ks' _ hW).mono ?_
      rintro e w0 ⟨rfl, hb0⟩
      go_wp2
      go_returns
      exact retNest_none hb0

set_option maxHeartbeats 4000000 in
theorem spec_AloneMinutes (a : Option Addr) (n c : Nat) (I : Nat → ByteArray) (F U : Nat → Int) (f t least : Int) (w : World) (hW : WorkAt w a n I F U) (hn : szW I n ≤ 1048576) :
    Calls Try.prog 7 #[.slice a n c, .int .i64 f, .int .i64 t, .int .i64 least] w (RetNest (alR I F U n f t least) (alC I F U n f t least) w) := by
  have hn2 := szW_n hn
  have kw := fun W => spec_l00In least 1 12 W
  have ks := fun W h => spec_l14Span a n c I F U f t W h hn
  by_cases hC : alC I F U n f t least = 0
  · have hR : alR I F U n f t least = alL F U n least f (t - f).toNat := if_pos hC
    rw [hR]
    have hs : spanB f t = true := by
      cases hs : spanB f t
      · unfold alC at hC; rw [hs] at hC; cases hv : validW I F U n <;> rw [hv] at hC <;> simp [staffC] at hC
      · rfl
    have hl : inB least 1 12 = true := by
      cases hl : inB least 1 12
      · unfold alC at hC; rw [hs, hl] at hC; cases hv : validW I F U n <;> rw [hv] at hC <;> simp [staffC] at hC
      · rfl
    have hv : validW I F U n = true := by
      cases hv : validW I F U n
      · unfold alC at hC; rw [hv] at hC; simp [staffC] at hC
      · rfl
    obtain ⟨f0, f1, t0, t1, ft⟩ := spanB_at hs
    rw [hC]
    rw [hv, hs] at ks
    rw [show staffC true true = 0 from rfl] at ks
    rw [hl] at kw
    clear hv
    clear hC hR hs hl
    go_enter Try.func7, Try.ntmps7
    go_wp2_with fail
    refine (ks _ hW).mono ?_
    rintro e w0 ⟨rfl, hb0⟩
    have hW0 := hW.below hb0
    have h00 := hb0.size
    clear ks
    go_wp2_with (go_at_call 32; (with_reducible refine (kw _).mono ?_); rintro e w' ⟨rfl, rfl⟩)
    clear kw
    go_loopw [11, 12] (fun sv mv wr => ∃ k : Nat, (k : Int) ≤ t - f ∧ mv = .int .i64 (f + k) ∧ NestB w0.heap.size wr sv (alL F U n least f k) ∧ Below w0.heap.size w0 wr) (fun _ mv _ => (1440 - intOf mv).toNat)
    case atStart => exact ⟨0, by omega, by simp, NestB.made (Nat.le_refl _), Below.alloc (Below.refl _ _) (Nat.le_refl _) _⟩
    case round =>
      obtain ⟨k, hk, rfl, hN, hB⟩ := hrel
      have hq := hB.size
      by_cases hlt : f + k < t
      · have hWr := hW0.below hB
        have ka := fun W h => spec_l14At a n c I F U (f + k) W h hn2
        have hal := alL_len F U n least f k
        by_cases hle : least ≤ (atL F U (f + k) n).length
        · have HS := Lib.hid (al_skip hle)
          generalize alL F U n least f k = L at *
          generalize atL F U (f + k) n = A at *
          go_wp2_with (first | (go_at_call 33; (with_reducible refine (ka _ hWr).mono ?_); rintro e w1 ⟨a1, c1, rfl, _, hb1⟩))
          go_roundw
          case rel => exact ⟨k + 1, by omega, by congr 1; omega, by rw [HS.out]; exact hN.below hb1, hB.trans (hb1.mono hq)⟩
          case measure => simp [intOf]; omega
        · have H0 := Lib.hid (al_none (F := F) (U := U) (n := n) (k := k) hle)
          have HN := Lib.hid (fun L x y => al_new (F := F) (U := U) (n := n) (k := k) (L := L) (x := x) (y := y) hle)
          have HM := Lib.hid (fun L x y => al_more (F := F) (U := U) (n := n) (k := k) (L := L) (x := x) (y := y) hle)
          generalize alL F U n least f k = L at *
          generalize atL F U (f + k) n = A at *
          rcases List.eq_nil_or_concat L with rfl | ⟨L', ⟨x, y⟩, rfl⟩
          · obtain ⟨a9, c9, rfl⟩ := hN.shape
            go_wp2_with (first | (go_at_call 33; (with_reducible refine (ka _ hWr).mono ?_); rintro e w1 ⟨a1, c1, rfl, _, hb1⟩; have e1 := hb1.size) | (at_builtin; refine app_pair _ rfl _ _ rfl w0.heap.size _ _ rfl w1 (hN.below hb1) (by go_grown) (by have := hb1.size; omega) w1.heap.size (w1.heap.size + 1) 1 (f + k, f + k + 1) rfl (by go_cell) (two_alloc _ _ _) (Nat.le_refl _) (Nat.le_trans hal (by omega)) ?_; intro v2 w2 hN2 hb2))
            go_roundw
            case rel => exact ⟨k + 1, by omega, by congr 1; omega, by rw [H0.out (by simp)]; exact hN2, ((hB.trans (hb1.mono hq)).alloc (by omega) _ |>.alloc (by simp; omega) _).trans hb2⟩
            case measure => simp [intOf]; omega
          · rw [List.concat_eq_append] at *
            have hll : (L' ++ [(x, y)]).length = L'.length + 1 := by simp
            by_cases hy : y = f + k
            · have HS := Lib.hid (HM.out L' x y rfl hy)
              obtain ⟨g0, cap, q, rfl, hLast⟩ := hN.last
              go_wp2_with (first | (go_at_call 33; (with_reducible refine (ka _ hWr).mono ?_); rintro e w1 ⟨a1, c1, rfl, _, hb1⟩; have e1 := hb1.size; obtain ⟨b0, c0, b1, hBq, c1, fz, hset⟩ := hLast _ hb1))
              go_roundw
              case rel => exact ⟨k + 1, by omega, by congr 1; omega, by rw [HS.out]; exact hset _, below_set (hB.trans (hb1.mono hq)) hBq⟩
              case measure => simp [intOf]; omega
            · have HS := Lib.hid (HN.out L' x y rfl hy)
              obtain ⟨g0, cap, q, rfl, hLast⟩ := hN.last
              go_wp2_with (first | (go_at_call 33; (with_reducible refine (ka _ hWr).mono ?_); rintro e w1 ⟨a1, c1, rfl, _, hb1⟩; have e1 := hb1.size; obtain ⟨b0, c0, b1, hBq, c1, fz, hset⟩ := hLast _ hb1) | (at_builtin; refine app_pair _ rfl _ _ rfl w0.heap.size _ _ rfl w1 (hN.below hb1) (by go_grown) (by have := hb1.size; omega) w1.heap.size (w1.heap.size + 1) 1 (f + k, f + k + 1) rfl (by go_cell) (two_alloc _ _ _) (Nat.le_refl _) (Nat.le_trans hal (by omega)) ?_; intro v2 w2 hN2 hb2))
              go_roundw
              case rel => exact ⟨k + 1, by omega, by congr 1; omega, by rw [HS.out]; exact hN2, ((hB.trans (hb1.mono hq)).alloc (by omega) _ |>.alloc (by simp; omega) _).trans hb2⟩
              case measure => simp [intOf]; omega
      · obtain rfl : t = f + k := by omega
        go_wp2
        go_returns
        have : (f + (k : Int) - f).toNat = k := by omega
        rw [this]
        exact hN.ret0 hb0 hB
  · have hR : alR I F U n f t least = [] := if_neg hC
    rw [hR]
    have hcc : alC I F U n f t least = if staffC (validW I F U n) (spanB f t) = 0 then (if inB least 1 12 = true then 0 else 2) else staffC (validW I F U n) (spanB f t) := by
      unfold alC
      cases validW I F U n <;> cases spanB f t <;> cases inB least 1 12 <;> rfl
    rw [hcc] at hC ⊢
    generalize staffC (validW I F U n) (spanB f t) = C at *
    clear hR hcc
    by_cases h0 : C = 0
    · subst h0
      rw [if_pos rfl] at hC ⊢
      cases hl : inB least 1 12
      · rw [hl] at kw
        go_enter Try.func7, Try.ntmps7
        go_wp2_with fail
        refine (ks _ hW).mono ?_
        rintro e w0 ⟨rfl, hb0⟩
        go_wp2_with (go_at_call 32; (with_reducible refine (kw _).mono ?_); rintro e w' ⟨rfl, rfl⟩)
        go_returns
        exact retNest_none hb0
      · rw [hl] at hC; exact absurd rfl hC
    · rw [if_neg h0]
      have h0' : (C == 0) = false := beq_eq_false_iff_ne.2 h0
      clear hC
      go_enter Try.func7, Try.ntmps7
      go_wp2_with fail
      refine (ks _ hW).mono ?_
      rintro e w0 ⟨rfl, hb0⟩
      go_wp2_with (go_at_call 32; (with_reducible refine (kw _).mono ?_); rintro e w' ⟨rfl, rfl⟩)
      go_returns
      exact retNest_none hb0

end Go.Proofs.Ytngeaojimehlbaa
