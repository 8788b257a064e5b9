/-
  Contracts: states read.
-/
import Derived.Test.YteccpafoojkmjaaGreatDoorNs
import Derived.Test.YteccpafoojkmjaaGreatDoorNk
import Derived.Test.YteccpafoojkmjaaGreatDoorKT
import Derived.Test.YteccpafoojkmjaaGreatDoorQu
import Derived.Lib.Hide
import Derived.BigRegion
import Derived.LoopTactic
namespace Go.Proofs.YteccpafoojkmjaaGreatDoor
open Go.RowKit
set_option linter.unusedVariables false
set_option linter.unusedSimpArgs false


theorem get_byte' {s : ByteArray} {k : Nat} (h : k < s.size) : s[k]'h = s.get! k := by
  simp [ByteArray.get!, getElem!_pos, h]
  rfl
def fz5 (X : Nat) (W : World) : Prop := W.frozen? ⟨X, 0, none⟩ = false ∧ W.frozen? ⟨X, 1, none⟩ = false ∧ W.frozen? ⟨X, 2, none⟩ = false ∧ W.frozen? ⟨X, 3, none⟩ = false ∧ W.frozen? ⟨X, 4, none⟩ = false
theorem fz5.below {X : Nat} {W W' : World} (h : fz5 X W) (hX : X < W.heap.size) (k : Below W.heap.size W W') : fz5 X W' :=
  ⟨(k.frozen (p := ⟨X, 0, none⟩) hX).trans h.1, (k.frozen (p := ⟨X, 1, none⟩) hX).trans h.2.1, (k.frozen (p := ⟨X, 2, none⟩) hX).trans h.2.2.1, (k.frozen (p := ⟨X, 3, none⟩) hX).trans h.2.2.2.1, (k.frozen (p := ⟨X, 4, none⟩) hX).trans h.2.2.2.2⟩
/-- The memory while the mode is looked for. -/
structure StateSt (b X : Nat) (W : World) (D : Int) : Prop where
  x0 : W.cell? ⟨X, 0, none⟩ = some (.int .i64 D)
  x1 : W.cell? ⟨X, 1, none⟩ = some (.bool false)
  x2 : W.cell? ⟨X, 2, none⟩ = some (.bool false)
  x3 : W.cell? ⟨X, 3, none⟩ = some (.bool false)
  x4 : W.cell? ⟨X, 4, none⟩ = some (.bool false)
  xf : fz5 X W
  r0 : W.cell? ⟨b, 0, none⟩ = some (.int .i64 0)
  r1 : W.cell? ⟨b, 1, none⟩ = some (.bool false)
  r2 : W.cell? ⟨b, 2, none⟩ = some (.bool false)
  r3 : W.cell? ⟨b, 3, none⟩ = some (.bool false)
  r4 : W.cell? ⟨b, 4, none⟩ = some (.bool false)
  rf : fz5 b W
  lX : X < W.heap.size
  lb : b < W.heap.size
theorem StateSt.below {b X : Nat} {D : Int} {W W' : World} (h : StateSt b X W D) (k : Below W.heap.size W W') : StateSt b X W' D :=
  ⟨(k.cell (p := ⟨X, 0, none⟩) h.lX).trans h.x0, (k.cell (p := ⟨X, 1, none⟩) h.lX).trans h.x1, (k.cell (p := ⟨X, 2, none⟩) h.lX).trans h.x2, (k.cell (p := ⟨X, 3, none⟩) h.lX).trans h.x3, (k.cell (p := ⟨X, 4, none⟩) h.lX).trans h.x4, h.xf.below h.lX k,
   (k.cell (p := ⟨b, 0, none⟩) h.lb).trans h.r0, (k.cell (p := ⟨b, 1, none⟩) h.lb).trans h.r1, (k.cell (p := ⟨b, 2, none⟩) h.lb).trans h.r2, (k.cell (p := ⟨b, 3, none⟩) h.lb).trans h.r3, (k.cell (p := ⟨b, 4, none⟩) h.lb).trans h.r4, h.rf.below h.lb k,
   Nat.lt_of_lt_of_le h.lX k.size, Nat.lt_of_lt_of_le h.lb k.size⟩
theorem StateSt.set {b X : Nat} {D : Int} {W : World} (h : StateSt b X W D) (hb : b ≠ X) (m : Int) : StateSt b X (W.setCell ⟨X, 0, none⟩ (.int .i64 m)) m :=
  ⟨cell_same h.x0, cell_off h.x1 (by decide), cell_off h.x2 (by decide), cell_off h.x3 (by decide), cell_off h.x4 (by decide), by simpa [fz5] using h.xf, cell_far h.r0 hb, cell_far h.r1 hb, cell_far h.r2 hb, cell_far h.r3 hb, cell_far h.r4 hb, by simpa [fz5] using h.rf, lt_set h.lX, lt_set h.lb⟩
set_option maxHeartbeats 8000000 in
theorem impl_ReadState (s : ByteArray) (m : Int) (o a b e ok : Bool) (w : World) (hs : s.size ≤ 1048576) (hp : StateIs s m o a b e ok) (hM : MaxAt w) :
    Calls Tryz.prog 15 #[.string s] w fun e' w' => e' = .returned (.tuple #[.agg #[.int .i64 m, .bool o, .bool a, .bool b, .bool e], .bool ok]) ∧ Below w.heap.size w w' := by
  have kc := fun W h => strings_Cut_c s 32 W hs h
  have kn := fun (P : Int) W => impl_ModeName P W
  have HNo := Lib.hid (fun h => state_no hp h)
  have HYes := Lib.hid (fun (h1 : inB (smode (cutA s 32) 5) 0 4 = true) h2 => state_hit hp h1 (show stGuess s = s from h2))
  have hG : stGuess s = stateText (smode (cutA s 32) 5) (bt (cutB s 32) 0 111) (bt (cutB s 32) 1 97) (bt (cutB s 32) 2 98) (bt (cutB s 32) 3 101) := rfl
  have hsz := (cut_size s 32).2
  clear hp
  generalize cutA s 32 = N at *
  generalize cutB s 32 = S at *
  go_enter Tryz.func15, Tryz.ntmps15
  go_wp2_with fail
  refine (kc _ (hM.below (by go_grown))).mono ?_
  rintro e' w1 ⟨⟨bo, rfl⟩, hb1⟩
  have z0 : w.heap.size < w1.heap.size := Nat.lt_of_lt_of_le (by simp) hb1.size
  have hB1 : Below w.heap.size w w1 := Below.trans (by go_grown) (hb1.mono (by go_size))
  have r0 : w1.cell? ⟨w.heap.size, 0, none⟩ = some (.int .i64 0) := (hb1.cell (p := ⟨w.heap.size, 0, none⟩) (by first | omega | (simp; done) | (simp [World.setCell]; done) | (simp; omega) | (simp [World.setCell]; omega))).trans (by go_cell)
  have r1 : w1.cell? ⟨w.heap.size, 1, none⟩ = some (.bool false) := (hb1.cell (p := ⟨w.heap.size, 1, none⟩) (by first | omega | (simp; done) | (simp [World.setCell]; done) | (simp; omega) | (simp [World.setCell]; omega))).trans (by go_cell)
  have r2 : w1.cell? ⟨w.heap.size, 2, none⟩ = some (.bool false) := (hb1.cell (p := ⟨w.heap.size, 2, none⟩) (by first | omega | (simp; done) | (simp [World.setCell]; done) | (simp; omega) | (simp [World.setCell]; omega))).trans (by go_cell)
  have r3 : w1.cell? ⟨w.heap.size, 3, none⟩ = some (.bool false) := (hb1.cell (p := ⟨w.heap.size, 3, none⟩) (by first | omega | (simp; done) | (simp [World.setCell]; done) | (simp; omega) | (simp [World.setCell]; omega))).trans (by go_cell)
  have r4 : w1.cell? ⟨w.heap.size, 4, none⟩ = some (.bool false) := (hb1.cell (p := ⟨w.heap.size, 4, none⟩) (by first | omega | (simp; done) | (simp [World.setCell]; done) | (simp; omega) | (simp [World.setCell]; omega))).trans (by go_cell)
  have rf0 : w1.frozen? ⟨w.heap.size, 0, none⟩ = false := (hb1.frozen (p := ⟨w.heap.size, 0, none⟩) (by first | omega | (simp; done) | (simp [World.setCell]; done) | (simp; omega) | (simp [World.setCell]; omega))).trans (by go_simp)
  have rf1 : w1.frozen? ⟨w.heap.size, 1, none⟩ = false := (hb1.frozen (p := ⟨w.heap.size, 1, none⟩) (by first | omega | (simp; done) | (simp [World.setCell]; done) | (simp; omega) | (simp [World.setCell]; omega))).trans (by go_simp)
  have rf2 : w1.frozen? ⟨w.heap.size, 2, none⟩ = false := (hb1.frozen (p := ⟨w.heap.size, 2, none⟩) (by first | omega | (simp; done) | (simp [World.setCell]; done) | (simp; omega) | (simp [World.setCell]; omega))).trans (by go_simp)
  have rf3 : w1.frozen? ⟨w.heap.size, 3, none⟩ = false := (hb1.frozen (p := ⟨w.heap.size, 3, none⟩) (by first | omega | (simp; done) | (simp [World.setCell]; done) | (simp; omega) | (simp [World.setCell]; omega))).trans (by go_simp)
  have rf4 : w1.frozen? ⟨w.heap.size, 4, none⟩ = false := (hb1.frozen (p := ⟨w.heap.size, 4, none⟩) (by first | omega | (simp; done) | (simp [World.setCell]; done) | (simp; omega) | (simp [World.setCell]; omega))).trans (by go_simp)
  clear hb1
  go_wp2
  (have F0 : (w1.alloc (Obj.cells #[.int .i64 (-1), .bool false, .bool false, .bool false, .bool false] 35)).frozen? ⟨w1.heap.size, 0, none⟩ = false := (by go_simp); have Q0 : (w1.alloc (Obj.cells #[.int .i64 (-1), .bool false, .bool false, .bool false, .bool false] 35)).cell? ⟨w1.heap.size, 0, none⟩ = some (.int .i64 (-1)) := (by go_simp); have F1 : (w1.alloc (Obj.cells #[.int .i64 (-1), .bool false, .bool false, .bool false, .bool false] 35)).frozen? ⟨w1.heap.size, 1, none⟩ = false := (by go_simp); have Q1 : (w1.alloc (Obj.cells #[.int .i64 (-1), .bool false, .bool false, .bool false, .bool false] 35)).cell? ⟨w1.heap.size, 1, none⟩ = some (.bool false) := (by go_simp); have F2 : (w1.alloc (Obj.cells #[.int .i64 (-1), .bool false, .bool false, .bool false, .bool false] 35)).frozen? ⟨w1.heap.size, 2, none⟩ = false := (by go_simp); have Q2 : (w1.alloc (Obj.cells #[.int .i64 (-1), .bool false, .bool false, .bool false, .bool false] 35)).cell? ⟨w1.heap.size, 2, none⟩ = some (.bool false) := (by go_simp); have F3 : (w1.alloc (Obj.cells #[.int .i64 (-1), .bool false, .bool false, .bool false, .bool false] 35)).frozen? ⟨w1.heap.size, 3, none⟩ = false := (by go_simp); have Q3 : (w1.alloc (Obj.cells #[.int .i64 (-1), .bool false, .bool false, .bool false, .bool false] 35)).cell? ⟨w1.heap.size, 3, none⟩ = some (.bool false) := (by go_simp); have F4 : (w1.alloc (Obj.cells #[.int .i64 (-1), .bool false, .bool false, .bool false, .bool false] 35)).frozen? ⟨w1.heap.size, 4, none⟩ = false := (by go_simp); have Q4 : (w1.alloc (Obj.cells #[.int .i64 (-1), .bool false, .bool false, .bool false, .bool false] 35)).cell? ⟨w1.heap.size, 4, none⟩ = some (.bool false) := (by go_simp); have Z5 : w1.heap.size < (w1.alloc (Obj.cells #[.int .i64 (-1), .bool false, .bool false, .bool false, .bool false] 35)).heap.size := (by first | omega | (simp; done) | (simp; omega)); have F5 : (w1.alloc (Obj.cells #[.int .i64 (-1), .bool false, .bool false, .bool false, .bool false] 35)).frozen? ⟨w.heap.size, 0, none⟩ = false := (by go_simp); have Q5 : (w1.alloc (Obj.cells #[.int .i64 (-1), .bool false, .bool false, .bool false, .bool false] 35)).cell? ⟨w.heap.size, 0, none⟩ = some (.int .i64 0) := (by go_simp); have F6 : (w1.alloc (Obj.cells #[.int .i64 (-1), .bool false, .bool false, .bool false, .bool false] 35)).frozen? ⟨w.heap.size, 1, none⟩ = false := (by go_simp); have Q6 : (w1.alloc (Obj.cells #[.int .i64 (-1), .bool false, .bool false, .bool false, .bool false] 35)).cell? ⟨w.heap.size, 1, none⟩ = some (.bool false) := (by go_simp); have F7 : (w1.alloc (Obj.cells #[.int .i64 (-1), .bool false, .bool false, .bool false, .bool false] 35)).frozen? ⟨w.heap.size, 2, none⟩ = false := (by go_simp); have Q7 : (w1.alloc (Obj.cells #[.int .i64 (-1), .bool false, .bool false, .bool false, .bool false] 35)).cell? ⟨w.heap.size, 2, none⟩ = some (.bool false) := (by go_simp); have F8 : (w1.alloc (Obj.cells #[.int .i64 (-1), .bool false, .bool false, .bool false, .bool false] 35)).frozen? ⟨w.heap.size, 3, none⟩ = false := (by go_simp); have Q8 : (w1.alloc (Obj.cells #[.int .i64 (-1), .bool false, .bool false, .bool false, .bool false] 35)).cell? ⟨w.heap.size, 3, none⟩ = some (.bool false) := (by go_simp); have F9 : (w1.alloc (Obj.cells #[.int .i64 (-1), .bool false, .bool false, .bool false, .bool false] 35)).frozen? ⟨w.heap.size, 4, none⟩ = false := (by go_simp); have Q9 : (w1.alloc (Obj.cells #[.int .i64 (-1), .bool false, .bool false, .bool false, .bool false] 35)).cell? ⟨w.heap.size, 4, none⟩ = some (.bool false) := (by go_simp); have Z10 : w.heap.size < (w1.alloc (Obj.cells #[.int .i64 (-1), .bool false, .bool false, .bool false, .bool false] 35)).heap.size := (by first | omega | (simp; done) | (simp; omega)); have BB : Below w.heap.size w (w1.alloc (Obj.cells #[.int .i64 (-1), .bool false, .bool false, .bool false, .bool false] 35)) := (by go_grown); generalize w1.alloc (Obj.cells #[.int .i64 (-1), .bool false, .bool false, .bool false, .bool false] 35) = w2 at *)
  obtain ⟨X, hX⟩ : ∃ X, X = w1.heap.size := ⟨_, rfl⟩
  have hbX : w.heap.size ≠ X := by omega
  have hXw : w.heap.size ≤ X := by omega
  have hSt : StateSt w.heap.size X w2 (smode N 0) := by
    rw [hX]; exact ⟨Q0, Q1, Q2, Q3, Q4, ⟨F0, F1, F2, F3, F4⟩, Q5, Q6, Q7, Q8, Q9, ⟨F5, F6, F7, F8, F9⟩, Z5, Z10⟩
  rw [← hX]
  have hB2 := BB
  clear hX Q0 Q1 Q2 Q3 Q4 Q5 Q6 Q7 Q8 Q9 F0 F1 F2 F3 F4 F5 F6 F7 F8 F9 BB Z5 Z10 r0 r1 r2 r3 r4 rf0 rf1 rf2 rf3 rf4 hB1 z0
  go_loopw [8] (fun v wr => ∃ P : Nat, P ≤ 5 ∧ v = .int .i64 P ∧ StateSt w.heap.size X wr (smode N P) ∧ Below w.heap.size w wr) (fun v _ => 5 - (intOf v).toNat)
  case atStart => exact ⟨0, by omega, rfl, hSt, hB2⟩
  case round =>
    clear hSt hB2
    obtain ⟨P, hP, rfl, hSt, hB⟩ := hrel
    have hq := hB.size
    have HSt := Lib.hid hSt
    obtain ⟨x0, x1, x2, x3, x4, ⟨xf0, xf1, xf2, xf3, xf4⟩, r0, r1, r2, r3, r4, ⟨f0, f1, f2, f3, f4⟩, lX, lb⟩ := hSt
    by_cases hlP : P < 5
    · have lP : (P : Int) ≤ 4 := by omega
      replace kn := kn P
      by_cases hn : modeName P = N
      · have HE := Lib.hid (show smode N (P + 1) = P by unfold smode; rw [if_pos hn])
        have he := ba_eq' hn
        generalize modeName P = T at *
        generalize smode N P = Dp at *
        clear hn hG
        go_wp2_with (go_at_call 33; (with_reducible refine (kn _).mono ?_); rintro e w' ⟨rfl, hb⟩; obtain ⟨hc, hf, hs⟩ := bkeep hb; have hz : w.heap.size ≤ w'.heap.size := (by have := hb.size; (try simp at this); omega); have hB : Below w.heap.size w w' := Below.trans (by go_grown) (hb.mono (by go_size)))
        go_roundw
        case rel => exact ⟨P + 1, by omega, by go_num, by rw [HE.out]; exact (HSt.out.below hb).set hbX _, below_set hB hXw⟩
        case measure => simp [intOf]; omega
      · have HE := Lib.hid (show smode N (P + 1) = smode N P by rw [smode, if_neg hn])
        have he := ba_ne hn
        generalize modeName P = T at *
        generalize smode N P = Dp at *
        clear hn hG
        go_wp2_with (go_at_call 33; (with_reducible refine (kn _).mono ?_); rintro e w' ⟨rfl, hb⟩; obtain ⟨hc, hf, hs⟩ := bkeep hb; have hz : w.heap.size ≤ w'.heap.size := (by have := hb.size; (try simp at this); omega); have hB : Below w.heap.size w w' := Below.trans (by go_grown) (hb.mono (by go_size)))
        go_roundw
        case rel => exact ⟨P + 1, by omega, by go_num, by rw [HE.out]; exact (HSt.out.below hb), hB⟩
        case measure => simp [intOf]; omega
    · obtain rfl : P = 5 := by omega
      clear kn kc HSt hlP hP
      have hM5 := smode_bd N 5
      by_cases h4 : S.size = 4
      · have h4' : ((S.size : Nat) : Int) = 4 := by omega
        have kv := fun W => impl_ValidControl (smode N 5) false false false false W
        cases hv : inB (smode N 5) 0 4
        · obtain ⟨rfl, rfl, rfl, rfl, rfl, rfl⟩ := HNo.out (.inr (.inl hv))
          rw [hv] at kv
          clear HNo HYes hG hv hM5 h4
          generalize smode N 5 = M at *
          go_wp2_with fail
          with_reducible refine (kv _).mono ?_
          rintro e' wa ⟨rfl, hba⟩
          have lXa : X < wa.heap.size := Nat.lt_of_lt_of_le lX hba.size
          have lba : w.heap.size < wa.heap.size := Nat.lt_of_lt_of_le lb hba.size
          have xa0 : wa.cell? ⟨X, 0, none⟩ = some (.int .i64 M) := (hba.cell (p := ⟨X, 0, none⟩) (by first | omega | (simp; done) | (simp [World.setCell]; done) | (simp; omega) | (simp [World.setCell]; omega))).trans (by go_cell)
          have xa1 : wa.cell? ⟨X, 1, none⟩ = some (.bool false) := (hba.cell (p := ⟨X, 1, none⟩) (by first | omega | (simp; done) | (simp [World.setCell]; done) | (simp; omega) | (simp [World.setCell]; omega))).trans (by go_cell)
          have xa2 : wa.cell? ⟨X, 2, none⟩ = some (.bool false) := (hba.cell (p := ⟨X, 2, none⟩) (by first | omega | (simp; done) | (simp [World.setCell]; done) | (simp; omega) | (simp [World.setCell]; omega))).trans (by go_cell)
          have xa3 : wa.cell? ⟨X, 3, none⟩ = some (.bool false) := (hba.cell (p := ⟨X, 3, none⟩) (by first | omega | (simp; done) | (simp [World.setCell]; done) | (simp; omega) | (simp [World.setCell]; omega))).trans (by go_cell)
          have xa4 : wa.cell? ⟨X, 4, none⟩ = some (.bool false) := (hba.cell (p := ⟨X, 4, none⟩) (by first | omega | (simp; done) | (simp [World.setCell]; done) | (simp; omega) | (simp [World.setCell]; omega))).trans (by go_cell)
          have ra0 : wa.cell? ⟨w.heap.size, 0, none⟩ = some (.int .i64 0) := (hba.cell (p := ⟨w.heap.size, 0, none⟩) (by first | omega | (simp; done) | (simp [World.setCell]; done) | (simp; omega) | (simp [World.setCell]; omega))).trans (by go_cell)
          have ra1 : wa.cell? ⟨w.heap.size, 1, none⟩ = some (.bool false) := (hba.cell (p := ⟨w.heap.size, 1, none⟩) (by first | omega | (simp; done) | (simp [World.setCell]; done) | (simp; omega) | (simp [World.setCell]; omega))).trans (by go_cell)
          have ra2 : wa.cell? ⟨w.heap.size, 2, none⟩ = some (.bool false) := (hba.cell (p := ⟨w.heap.size, 2, none⟩) (by first | omega | (simp; done) | (simp [World.setCell]; done) | (simp; omega) | (simp [World.setCell]; omega))).trans (by go_cell)
          have ra3 : wa.cell? ⟨w.heap.size, 3, none⟩ = some (.bool false) := (hba.cell (p := ⟨w.heap.size, 3, none⟩) (by first | omega | (simp; done) | (simp [World.setCell]; done) | (simp; omega) | (simp [World.setCell]; omega))).trans (by go_cell)
          have ra4 : wa.cell? ⟨w.heap.size, 4, none⟩ = some (.bool false) := (hba.cell (p := ⟨w.heap.size, 4, none⟩) (by first | omega | (simp; done) | (simp [World.setCell]; done) | (simp; omega) | (simp [World.setCell]; omega))).trans (by go_cell)
          have ga0 : wa.frozen? ⟨X, 0, none⟩ = false := (hba.frozen (p := ⟨X, 0, none⟩) (by first | omega | (simp; done) | (simp [World.setCell]; done) | (simp; omega) | (simp [World.setCell]; omega))).trans (by go_simp)
          have ga1 : wa.frozen? ⟨X, 1, none⟩ = false := (hba.frozen (p := ⟨X, 1, none⟩) (by first | omega | (simp; done) | (simp [World.setCell]; done) | (simp; omega) | (simp [World.setCell]; omega))).trans (by go_simp)
          have ga2 : wa.frozen? ⟨X, 2, none⟩ = false := (hba.frozen (p := ⟨X, 2, none⟩) (by first | omega | (simp; done) | (simp [World.setCell]; done) | (simp; omega) | (simp [World.setCell]; omega))).trans (by go_simp)
          have ga3 : wa.frozen? ⟨X, 3, none⟩ = false := (hba.frozen (p := ⟨X, 3, none⟩) (by first | omega | (simp; done) | (simp [World.setCell]; done) | (simp; omega) | (simp [World.setCell]; omega))).trans (by go_simp)
          have ga4 : wa.frozen? ⟨X, 4, none⟩ = false := (hba.frozen (p := ⟨X, 4, none⟩) (by first | omega | (simp; done) | (simp [World.setCell]; done) | (simp; omega) | (simp [World.setCell]; omega))).trans (by go_simp)
          have fa0 : wa.frozen? ⟨w.heap.size, 0, none⟩ = false := (hba.frozen (p := ⟨w.heap.size, 0, none⟩) (by first | omega | (simp; done) | (simp [World.setCell]; done) | (simp; omega) | (simp [World.setCell]; omega))).trans (by go_simp)
          have fa1 : wa.frozen? ⟨w.heap.size, 1, none⟩ = false := (hba.frozen (p := ⟨w.heap.size, 1, none⟩) (by first | omega | (simp; done) | (simp [World.setCell]; done) | (simp; omega) | (simp [World.setCell]; omega))).trans (by go_simp)
          have fa2 : wa.frozen? ⟨w.heap.size, 2, none⟩ = false := (hba.frozen (p := ⟨w.heap.size, 2, none⟩) (by first | omega | (simp; done) | (simp [World.setCell]; done) | (simp; omega) | (simp [World.setCell]; omega))).trans (by go_simp)
          have fa3 : wa.frozen? ⟨w.heap.size, 3, none⟩ = false := (hba.frozen (p := ⟨w.heap.size, 3, none⟩) (by first | omega | (simp; done) | (simp [World.setCell]; done) | (simp; omega) | (simp [World.setCell]; omega))).trans (by go_simp)
          have fa4 : wa.frozen? ⟨w.heap.size, 4, none⟩ = false := (hba.frozen (p := ⟨w.heap.size, 4, none⟩) (by first | omega | (simp; done) | (simp [World.setCell]; done) | (simp; omega) | (simp [World.setCell]; omega))).trans (by go_simp)
          have hBa : Below w.heap.size w wa := Below.trans hB (hba.mono hB.size)
          clear hba x0 x1 x2 x3 x4 r0 r1 r2 r3 r4 xf0 xf1 xf2 xf3 xf4 f0 f1 f2 f3 f4 lX lb hB
          go_wp2_with fail
          refine bodyPost_ret (by simp [results, Tryz.results15, go_sem, *]; try rfl) rfl ?_
          exact ⟨rfl, (by first | go_grown | (repeat (first | exact hBa | refine Below.alloc ?_ (by simp [World.setCell]; omega) _ | refine below_set ?_ (by omega))))⟩
        · rw [hv] at kv
          have l0 : 0 < S.size := by omega
          have l1 : 1 < S.size := by omega
          have l2 : 2 < S.size := by omega
          have l3 : 3 < S.size := by omega
          have e0 : bt S 0 111 = (((S[0]'l0).toNat : Int) == 111) := by unfold bt; rw [get_byte' l0]
          have e1 : bt S 1 97 = (((S[1]'l1).toNat : Int) == 97) := by unfold bt; rw [get_byte' l1]
          have e2 : bt S 2 98 = (((S[2]'l2).toNat : Int) == 98) := by unfold bt; rw [get_byte' l2]
          have e3 : bt S 3 101 = (((S[3]'l3).toNat : Int) == 101) := by unfold bt; rw [get_byte' l3]
          rw [e0, e1, e2, e3] at hG
          clear hM5
          generalize smode N 5 = M at *
          go_wp2_with fail
          with_reducible refine (kv _).mono ?_
          rintro e' wa ⟨rfl, hba⟩
          have lXa : X < wa.heap.size := Nat.lt_of_lt_of_le lX hba.size
          have lba : w.heap.size < wa.heap.size := Nat.lt_of_lt_of_le lb hba.size
          have xa0 : wa.cell? ⟨X, 0, none⟩ = some (.int .i64 M) := (hba.cell (p := ⟨X, 0, none⟩) (by first | omega | (simp; done) | (simp [World.setCell]; done) | (simp; omega) | (simp [World.setCell]; omega))).trans (by go_cell)
          have xa1 : wa.cell? ⟨X, 1, none⟩ = some (.bool false) := (hba.cell (p := ⟨X, 1, none⟩) (by first | omega | (simp; done) | (simp [World.setCell]; done) | (simp; omega) | (simp [World.setCell]; omega))).trans (by go_cell)
          have xa2 : wa.cell? ⟨X, 2, none⟩ = some (.bool false) := (hba.cell (p := ⟨X, 2, none⟩) (by first | omega | (simp; done) | (simp [World.setCell]; done) | (simp; omega) | (simp [World.setCell]; omega))).trans (by go_cell)
          have xa3 : wa.cell? ⟨X, 3, none⟩ = some (.bool false) := (hba.cell (p := ⟨X, 3, none⟩) (by first | omega | (simp; done) | (simp [World.setCell]; done) | (simp; omega) | (simp [World.setCell]; omega))).trans (by go_cell)
          have xa4 : wa.cell? ⟨X, 4, none⟩ = some (.bool false) := (hba.cell (p := ⟨X, 4, none⟩) (by first | omega | (simp; done) | (simp [World.setCell]; done) | (simp; omega) | (simp [World.setCell]; omega))).trans (by go_cell)
          have ra0 : wa.cell? ⟨w.heap.size, 0, none⟩ = some (.int .i64 0) := (hba.cell (p := ⟨w.heap.size, 0, none⟩) (by first | omega | (simp; done) | (simp [World.setCell]; done) | (simp; omega) | (simp [World.setCell]; omega))).trans (by go_cell)
          have ra1 : wa.cell? ⟨w.heap.size, 1, none⟩ = some (.bool false) := (hba.cell (p := ⟨w.heap.size, 1, none⟩) (by first | omega | (simp; done) | (simp [World.setCell]; done) | (simp; omega) | (simp [World.setCell]; omega))).trans (by go_cell)
          have ra2 : wa.cell? ⟨w.heap.size, 2, none⟩ = some (.bool false) := (hba.cell (p := ⟨w.heap.size, 2, none⟩) (by first | omega | (simp; done) | (simp [World.setCell]; done) | (simp; omega) | (simp [World.setCell]; omega))).trans (by go_cell)
          have ra3 : wa.cell? ⟨w.heap.size, 3, none⟩ = some (.bool false) := (hba.cell (p := ⟨w.heap.size, 3, none⟩) (by first | omega | (simp; done) | (simp [World.setCell]; done) | (simp; omega) | (simp [World.setCell]; omega))).trans (by go_cell)
          have ra4 : wa.cell? ⟨w.heap.size, 4, none⟩ = some (.bool false) := (hba.cell (p := ⟨w.heap.size, 4, none⟩) (by first | omega | (simp; done) | (simp [World.setCell]; done) | (simp; omega) | (simp [World.setCell]; omega))).trans (by go_cell)
          have ga0 : wa.frozen? ⟨X, 0, none⟩ = false := (hba.frozen (p := ⟨X, 0, none⟩) (by first | omega | (simp; done) | (simp [World.setCell]; done) | (simp; omega) | (simp [World.setCell]; omega))).trans (by go_simp)
          have ga1 : wa.frozen? ⟨X, 1, none⟩ = false := (hba.frozen (p := ⟨X, 1, none⟩) (by first | omega | (simp; done) | (simp [World.setCell]; done) | (simp; omega) | (simp [World.setCell]; omega))).trans (by go_simp)
          have ga2 : wa.frozen? ⟨X, 2, none⟩ = false := (hba.frozen (p := ⟨X, 2, none⟩) (by first | omega | (simp; done) | (simp [World.setCell]; done) | (simp; omega) | (simp [World.setCell]; omega))).trans (by go_simp)
          have ga3 : wa.frozen? ⟨X, 3, none⟩ = false := (hba.frozen (p := ⟨X, 3, none⟩) (by first | omega | (simp; done) | (simp [World.setCell]; done) | (simp; omega) | (simp [World.setCell]; omega))).trans (by go_simp)
          have ga4 : wa.frozen? ⟨X, 4, none⟩ = false := (hba.frozen (p := ⟨X, 4, none⟩) (by first | omega | (simp; done) | (simp [World.setCell]; done) | (simp; omega) | (simp [World.setCell]; omega))).trans (by go_simp)
          have fa0 : wa.frozen? ⟨w.heap.size, 0, none⟩ = false := (hba.frozen (p := ⟨w.heap.size, 0, none⟩) (by first | omega | (simp; done) | (simp [World.setCell]; done) | (simp; omega) | (simp [World.setCell]; omega))).trans (by go_simp)
          have fa1 : wa.frozen? ⟨w.heap.size, 1, none⟩ = false := (hba.frozen (p := ⟨w.heap.size, 1, none⟩) (by first | omega | (simp; done) | (simp [World.setCell]; done) | (simp; omega) | (simp [World.setCell]; omega))).trans (by go_simp)
          have fa2 : wa.frozen? ⟨w.heap.size, 2, none⟩ = false := (hba.frozen (p := ⟨w.heap.size, 2, none⟩) (by first | omega | (simp; done) | (simp [World.setCell]; done) | (simp; omega) | (simp [World.setCell]; omega))).trans (by go_simp)
          have fa3 : wa.frozen? ⟨w.heap.size, 3, none⟩ = false := (hba.frozen (p := ⟨w.heap.size, 3, none⟩) (by first | omega | (simp; done) | (simp [World.setCell]; done) | (simp; omega) | (simp [World.setCell]; omega))).trans (by go_simp)
          have fa4 : wa.frozen? ⟨w.heap.size, 4, none⟩ = false := (hba.frozen (p := ⟨w.heap.size, 4, none⟩) (by first | omega | (simp; done) | (simp [World.setCell]; done) | (simp; omega) | (simp [World.setCell]; omega))).trans (by go_simp)
          have hBa : Below w.heap.size w wa := Below.trans hB (hba.mono hB.size)
          clear hba x0 x1 x2 x3 x4 r0 r1 r2 r3 r4 xf0 xf1 xf2 xf3 xf4 f0 f1 f2 f3 f4 lX lb hB
          go_wp2_with fail
          have kt := fun W => impl_StateText M (((S[0]'l0).toNat : Int) == 111) (((S[1]'l1).toNat : Int) == 97) (((S[2]'l2).toNat : Int) == 98) (((S[3]'l3).toNat : Int) == 101) W
          rw [hv, if_pos rfl, ← hG] at kt
          rw [e0, e1, e2, e3] at HYes
          have HNo2 := Lib.hid HNo.out
          have HYes2 := Lib.hid (HYes.out hv)
          clear kv HNo HYes hG h4 e0 e1 e2 e3 hv
          go_region
          go_wp2_with fail
          refine (kt _).mono ?_
          rintro e' wb ⟨rfl, hbb⟩
          have lXb : X < wb.heap.size := Nat.lt_of_lt_of_le (by first | (simp; done) | (simp; omega)) hbb.size
          have lbb : w.heap.size < wb.heap.size := Nat.lt_of_lt_of_le (by first | (simp; done) | (simp; omega)) hbb.size
          have xb0 : wb.cell? ⟨X, 0, none⟩ = some (.int .i64 M) := (hbb.cell (p := ⟨X, 0, none⟩) (by first | omega | (simp; done) | (simp [World.setCell]; done) | (simp; omega) | (simp [World.setCell]; omega))).trans (by go_cell)
          have xb1 : wb.cell? ⟨X, 1, none⟩ = some (.bool (((S[0]'l0).toNat : Int) == 111)) := (hbb.cell (p := ⟨X, 1, none⟩) (by first | omega | (simp; done) | (simp [World.setCell]; done) | (simp; omega) | (simp [World.setCell]; omega))).trans (by go_cell)
          have xb2 : wb.cell? ⟨X, 2, none⟩ = some (.bool (((S[1]'l1).toNat : Int) == 97)) := (hbb.cell (p := ⟨X, 2, none⟩) (by first | omega | (simp; done) | (simp [World.setCell]; done) | (simp; omega) | (simp [World.setCell]; omega))).trans (by go_cell)
          have xb3 : wb.cell? ⟨X, 3, none⟩ = some (.bool (((S[2]'l2).toNat : Int) == 98)) := (hbb.cell (p := ⟨X, 3, none⟩) (by first | omega | (simp; done) | (simp [World.setCell]; done) | (simp; omega) | (simp [World.setCell]; omega))).trans (by go_cell)
          have xb4 : wb.cell? ⟨X, 4, none⟩ = some (.bool (((S[3]'l3).toNat : Int) == 101)) := (hbb.cell (p := ⟨X, 4, none⟩) (by first | omega | (simp; done) | (simp [World.setCell]; done) | (simp; omega) | (simp [World.setCell]; omega))).trans (by go_cell)
          have rb0 : wb.cell? ⟨w.heap.size, 0, none⟩ = some (.int .i64 0) := (hbb.cell (p := ⟨w.heap.size, 0, none⟩) (by first | omega | (simp; done) | (simp [World.setCell]; done) | (simp; omega) | (simp [World.setCell]; omega))).trans (by go_cell)
          have rb1 : wb.cell? ⟨w.heap.size, 1, none⟩ = some (.bool false) := (hbb.cell (p := ⟨w.heap.size, 1, none⟩) (by first | omega | (simp; done) | (simp [World.setCell]; done) | (simp; omega) | (simp [World.setCell]; omega))).trans (by go_cell)
          have rb2 : wb.cell? ⟨w.heap.size, 2, none⟩ = some (.bool false) := (hbb.cell (p := ⟨w.heap.size, 2, none⟩) (by first | omega | (simp; done) | (simp [World.setCell]; done) | (simp; omega) | (simp [World.setCell]; omega))).trans (by go_cell)
          have rb3 : wb.cell? ⟨w.heap.size, 3, none⟩ = some (.bool false) := (hbb.cell (p := ⟨w.heap.size, 3, none⟩) (by first | omega | (simp; done) | (simp [World.setCell]; done) | (simp; omega) | (simp [World.setCell]; omega))).trans (by go_cell)
          have rb4 : wb.cell? ⟨w.heap.size, 4, none⟩ = some (.bool false) := (hbb.cell (p := ⟨w.heap.size, 4, none⟩) (by first | omega | (simp; done) | (simp [World.setCell]; done) | (simp; omega) | (simp [World.setCell]; omega))).trans (by go_cell)
          have gb0 : wb.frozen? ⟨X, 0, none⟩ = false := (hbb.frozen (p := ⟨X, 0, none⟩) (by first | omega | (simp; done) | (simp [World.setCell]; done) | (simp; omega) | (simp [World.setCell]; omega))).trans (by go_simp)
          have gb1 : wb.frozen? ⟨X, 1, none⟩ = false := (hbb.frozen (p := ⟨X, 1, none⟩) (by first | omega | (simp; done) | (simp [World.setCell]; done) | (simp; omega) | (simp [World.setCell]; omega))).trans (by go_simp)
          have gb2 : wb.frozen? ⟨X, 2, none⟩ = false := (hbb.frozen (p := ⟨X, 2, none⟩) (by first | omega | (simp; done) | (simp [World.setCell]; done) | (simp; omega) | (simp [World.setCell]; omega))).trans (by go_simp)
          have gb3 : wb.frozen? ⟨X, 3, none⟩ = false := (hbb.frozen (p := ⟨X, 3, none⟩) (by first | omega | (simp; done) | (simp [World.setCell]; done) | (simp; omega) | (simp [World.setCell]; omega))).trans (by go_simp)
          have gb4 : wb.frozen? ⟨X, 4, none⟩ = false := (hbb.frozen (p := ⟨X, 4, none⟩) (by first | omega | (simp; done) | (simp [World.setCell]; done) | (simp; omega) | (simp [World.setCell]; omega))).trans (by go_simp)
          have fb0 : wb.frozen? ⟨w.heap.size, 0, none⟩ = false := (hbb.frozen (p := ⟨w.heap.size, 0, none⟩) (by first | omega | (simp; done) | (simp [World.setCell]; done) | (simp; omega) | (simp [World.setCell]; omega))).trans (by go_simp)
          have fb1 : wb.frozen? ⟨w.heap.size, 1, none⟩ = false := (hbb.frozen (p := ⟨w.heap.size, 1, none⟩) (by first | omega | (simp; done) | (simp [World.setCell]; done) | (simp; omega) | (simp [World.setCell]; omega))).trans (by go_simp)
          have fb2 : wb.frozen? ⟨w.heap.size, 2, none⟩ = false := (hbb.frozen (p := ⟨w.heap.size, 2, none⟩) (by first | omega | (simp; done) | (simp [World.setCell]; done) | (simp; omega) | (simp [World.setCell]; omega))).trans (by go_simp)
          have fb3 : wb.frozen? ⟨w.heap.size, 3, none⟩ = false := (hbb.frozen (p := ⟨w.heap.size, 3, none⟩) (by first | omega | (simp; done) | (simp [World.setCell]; done) | (simp; omega) | (simp [World.setCell]; omega))).trans (by go_simp)
          have fb4 : wb.frozen? ⟨w.heap.size, 4, none⟩ = false := (hbb.frozen (p := ⟨w.heap.size, 4, none⟩) (by first | omega | (simp; done) | (simp [World.setCell]; done) | (simp; omega) | (simp [World.setCell]; omega))).trans (by go_simp)
          have hBb : Below w.heap.size w wb := Below.trans (by first | go_grown | (repeat (first | exact hBa | refine Below.alloc ?_ (by simp [World.setCell]; omega) _ | refine below_set ?_ (by omega)))) (hbb.mono (by first | go_size | (simp; omega)))
          clear hbb lXa lba hBa xa0 ra0 ga0 fa0 xa1 ra1 ga1 fa1 xa2 ra2 ga2 fa2 xa3 ra3 ga3 fa3 xa4 ra4 ga4 fa4
          clear kt
          by_cases ht : stGuess s = s
          · have he := ba_eq' ht
            obtain ⟨rfl, rfl, rfl, rfl, rfl, rfl⟩ := HYes2.out ht
            clear HNo2 HYes2 ht
            generalize stGuess s = T at *
            go_wp2_with fail
            refine bodyPost_ret (by simp [results, Tryz.results15, go_sem, *]; try rfl) rfl ?_
            exact ⟨rfl, (by first | go_grown | (repeat (first | exact hBb | refine Below.alloc ?_ (by simp [World.setCell]; omega) _ | refine below_set ?_ (by omega))))⟩
          · have he := ba_ne ht
            obtain ⟨rfl, rfl, rfl, rfl, rfl, rfl⟩ := HNo2.out (.inr (.inr ht))
            clear HNo2 HYes2 ht
            generalize stGuess s = T at *
            go_wp2_with fail
            refine bodyPost_ret (by simp [results, Tryz.results15, go_sem, *]; try rfl) rfl ?_
            exact ⟨rfl, (by first | go_grown | (repeat (first | exact hBb | refine Below.alloc ?_ (by simp [World.setCell]; omega) _ | refine below_set ?_ (by omega))))⟩
      · obtain ⟨rfl, rfl, rfl, rfl, rfl, rfl⟩ := HNo.out (.inl h4)
        have h4' : (((S.size : Nat) : Int) == 4) = false := beq_eq_false_iff_ne.2 (by omega)
        have h5 : ¬ ((S.size : Nat) : Int) = 4 := by omega
        clear HNo HYes hG hM5 h4
        generalize smode N 5 = M at *
        go_wp2_with fail
        all_goals (try (exfalso; omega))
        refine bodyPost_ret (by simp [results, Tryz.results15, go_sem, *]; try rfl) rfl ?_
        exact ⟨rfl, (by first | go_grown | (repeat (first | exact hB | refine Below.alloc ?_ (by simp [World.setCell]; omega) _ | refine below_set ?_ (by omega))))⟩

end Go.Proofs.YteccpafoojkmjaaGreatDoor
