/-
  Append of one struct of several cells to a slice that the call gathers. No program function in sight.
-/
import Derived.Test.YtejhngkbkcalaaaGreatDoorM1
import Derived.Test.YtejhngkbkcalaaaGreatDoorRows
import Derived.WalkLawsBesides
import Derived.WalkSpells
import Derived.Outline
import Derived.Lib.Hide
namespace Go.Proofs.YtejhngkbkcalaaaGreatDoor
open Go.RowKit
set_option linter.unusedVariables false
set_option linter.unusedSimpArgs false

theorem app_cells {ops : Array Oper} {rest : List Oper} {o : Oper} {a : Act} {Q : Exit → Act → World → Prop} (T e : TypeId) (z : Value) (sz bytes : Nat)
    (hp : (Tryz.prog.info? e).map (fun i => (i.zero, i.size, i.bytes)) = some (some z, sz, bytes)) (hu : Tryz.prog.underlying T = some (.slice e)) (hzs : z.cells.size = sz) (hsz : 0 < sz) (hby : bytes ≤ 1024)
    (w : World) (hgd : o.guard = none) (s x : Operand) (ho : o.op = .call { callee := .builtin .append, args := #[s, x], argTypes := #[T, T] }) (B : Nat) (v : Value) (n : Nat) (xs : List Value)
    (hs : a.eval s = v) (hown : w.ownsRow B e sz v n xs) (g c : Nat) (ys : List Value) (hx : a.eval x = .slice (some ⟨g, 0, none⟩) 1 c) (hl : ys.length = sz)
    (hg : ∀ j u, ys[j]? = some u → w.cell? ⟨g, j, none⟩ = some u) (h1 : ∀ u ∈ ys, u.oneCell' = true) (hlen : n ≤ 16777216) (hbase : B ≤ w.heap.size)
    (h : ∀ v' w', w'.ownsRow B e sz v' (n + 1) (xs ++ ys) → Below B w w' → (∀ b, b < w.heap.size → v.ownBlock ≠ some b → w'.heap[b]? = w.heap[b]?) → wpList Tryz.prog ops Q rest (a.put o.dst v') w') :
    wpList Tryz.prog ops Q (o :: rest) a w := by
  obtain ⟨i0, hi, hz0, hz1, hz2⟩ := info_parts hp
  refine wpList_append_own w hgd s x T ho B e i0 z sz bytes hu hi hz0 hz1 hz2 hzs hsz v n xs hs hown ⟨g, 0, none⟩ 1 c ys hx (by omega) ?_ h1 (by unfold maxLen; omega) ?_ hbase ?_
  · intro j u hj
    have : (⟨g, 0, none⟩ : Addr).add j = ⟨g, j, none⟩ := by unfold Addr.add; cases j <;> simp
    rw [this]; exact hg j u hj
  · have : (n + 1) * bytes ≤ 16777217 * 1024 := Nat.mul_le_mul (by omega) hby
    omega
  · intro v' w' h2 h3 _
    exact h v' w' h2 (Below.grown (Below.refl _ _) h3 hbase (fun k hk => (World.ownsRow.lt hown k hk).1)) (fun b hb hne => h3.block b hb (fun e => hne e.symm))
theorem ownsRow_blk {w w' : World} {B : Nat} {e : TypeId} {sz n : Nat} {v : Value} {xs : List Value} (h : w.ownsRow B e sz v n xs) (k : ∀ g, v.ownBlock = some g → w'.heap[g]? = w.heap[g]?) : w'.ownsRow B e sz v n xs := by
  refine ⟨h.1, h.2.imp id fun ⟨g, cap, cur, h1, h2, h3, h4⟩ => ⟨g, cap, cur, h1, h2, ?_, h4⟩⟩
  rw [k g (by rw [h1]; rfl)]; exact h3
/-- Rows of two kinds of elements lie in two blocks. -/
theorem ownsRow_apart {w : World} {B1 B2 : Nat} {e1 e2 : TypeId} {s1 s2 n1 n2 : Nat} {v1 v2 : Value} {x1 x2 : List Value} (h1 : w.ownsRow B1 e1 s1 v1 n1 x1) (h2 : w.ownsRow B2 e2 s2 v2 n2 x2) (he : e1 ≠ e2) : ∀ g, v2.ownBlock = some g → v1.ownBlock ≠ some g := by
  intro g hg2 hg1
  rcases h1.2 with ⟨rfl, _⟩ | ⟨b1, c1, u1, rfl, _, k1, _⟩
  · simp [Value.ownBlock] at hg1
  rcases h2.2 with ⟨rfl, _⟩ | ⟨b2, c2, u2, rfl, _, k2, _⟩
  · simp [Value.ownBlock] at hg2
  simp only [Value.ownBlock, Option.some.injEq] at hg1 hg2
  subst hg1
  subst hg2
  rw [k1] at k2
  injection k2 with k2
  injection k2 with _ h _
  exact he h
theorem own_outN {w : World} {B : Nat} {e : TypeId} {sz n : Nat} {v : Value} {xs : List Value} (h : w.ownsRow B e sz v n xs) :
    ∃ a c, v = .slice a n c ∧ OwnIn B w.heap.size w a (n * sz) (fun q => xs.getD q (.int .i64 0)) := by
  have h0 := h
  rcases h.2 with ⟨rfl, rfl⟩ | ⟨g, cap, cur, rfl, hB, hg, _⟩
  · exact ⟨none, 0, rfl, fun h0 => absurd h0 (by omega)⟩
  · have hb : g < w.heap.size := by
      rcases Nat.lt_or_ge g w.heap.size with h1 | h1
      · exact h1
      · rw [Array.getElem?_eq_none h1] at hg; cases hg
    refine ⟨some ⟨g, 0, none⟩, cap, rfl, fun _ => ⟨g, rfl, hB, hb, hb, fun j hj => ⟨?_, h0.frozenAt j⟩⟩⟩
    have hl : j < xs.length := by rw [h0.1]; exact hj
    rw [h0.cellAt j hj]
    show xs[j]? = some (xs.getD j (.int .i64 0))
    rw [List.getD_eq_getElem?_getD, List.getElem?_eq_getElem hl]; rfl
theorem flat_get {α β : Type} (f : α → List β) (sz : Nat) (hf : ∀ x, (f x).length = sz) : ∀ (L : List α) (k i : Nat) (y : α), L[k]? = some y → i < sz → (L.flatMap f)[k * sz + i]? = (f y)[i]?
  | [], k, i, y, h, _ => by simp at h
  | x :: L, 0, i, y, h, hi => by
    simp at h; subst h
    rw [List.flatMap_cons, List.getElem?_append_left (by rw [hf]; omega)]; simp
  | x :: L, k + 1, i, y, h, hi => by
    have h' : L[k]? = some y := by simpa using h
    rw [List.flatMap_cons, List.getElem?_append_right (by rw [hf, Nat.add_mul]; omega), hf, show (k + 1) * sz + i - sz = k * sz + i by rw [Nat.add_mul]; omega]
    exact flat_get f sz hf L k i y h' hi
theorem flat_len {α β : Type} (f : α → List β) (sz : Nat) (hf : ∀ x, (f x).length = sz) (L : List α) : (L.flatMap f).length = L.length * sz := by
  induction L with
  | nil => simp
  | cons x L ih => rw [List.flatMap_cons, List.length_append, hf, ih, List.length_cons, Nat.add_mul]; omega
end Go.Proofs.YtejhngkbkcalaaaGreatDoor
